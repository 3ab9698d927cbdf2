/- Net5: simulations in memory; their beginning. -/
import Derived.Test.YtbnipfgbfnhibaaNet3
import Derived.Test.YtbnipfgbfnhibaaNet4
import Derived.Test.YtbnipfgbfnhibaaKit
set_option linter.unusedVariables false
set_option linter.unusedSimpArgs false
set_option linter.unnecessarySimpa false
namespace Go.Proofs
open Go Go.Vx Go.Gm

/-- A row of what is due. -/
structure DRow where
  g : Nat
  cap : Nat
  l : List Int

def drowV (d : DRow) : Value := .slice (some ⟨d.g, 0, none⟩) d.l.length d.cap
def drowE (d : DRow) : Ent := .vec (some ⟨d.g, 0, none⟩) d.l.length d.cap 3 1 (flat intV d.l)

/-- A simulation as it lies in memory. -/
structure SimM where
  b : Nat
  N : Net
  pb : Nat
  pc : Nat
  sv : Value
  bw : Nat
  R : List WRow
  tick : Nat
  sb : Nat
  sc : Nat
  sts : List Sta
  D : List DRow

def simC (x : SimM) : List Value :=
  .slice (some ⟨x.pb, 0, none⟩) x.N.ps.length x.pc :: .int .i64 x.N.inputs :: x.sv :: .map (some x.bw) :: .int .i64 (x.tick : Int) :: .slice (some ⟨x.sb, 0, none⟩) x.sts.length x.sc :: x.D.map drowV

/-- What a simulation owns alone. -/
def ownH (x : SimM) : HP :=
  .row x.b 104 (simC x) :: .vec (some ⟨x.sb, 0, none⟩) x.sts.length x.sc 98 2 (flat staV x.sts) :: x.D.map drowE

/-- What copies of a simulation share. -/
def shrH (x : SimM) : HP :=
  .map x.bw (x.R.map wrowM) :: .vec (some ⟨x.pb, 0, none⟩) x.N.ps.length x.pc 42 8 (flat parV x.N.ps) :: x.R.map wrowE

def simH (x : SimM) : HP := ownH x ++ shrH x

theorem _root_.Go.Vx.Cells.row {w0 w : World} {M : List Nat} {H r : HP} {b e : Nat} {cs : List Value} {u : Ent → HP} (hs : St w0 M H w) (hat : At H (.row b e cs) u r) : Cells w b 0 cs := by
  have h : w.heap[b]? = some (.cells cs.toArray e (0, 0)) := hs.own _ hat.mem
  intro j v hj
  simpa [World.cell?, h] using hj

theorem row_any (b : Nat) (cs : List Value) (tick later : Int) (v : Value) (w : World) (hc : Cells w b 0 cs) (h4 : sub cs 4 1 = some [.int .i64 tick]) (ht : 0 ≤ tick ∧ tick ≤ 10000) (hl : 0 ≤ later ∧ later ≤ 16) (hv : sub cs (6 + ((tick + later) % 16).toNat) 1 = some [v]) :
    Calls Try.prog 86 #[.pointer (some ⟨b, 0, none⟩), .int .i64 later] w fun e w' => e = .returned v ∧ St w [] [] w' := by
  refine enter (C := Try.cx) (F := Try.fx86) (args := [_, _]) Try.func86 rfl rfl rfl Try.ok86 (St.start w []) ?_
  repeat' (conv => whnf); first
    | (refine VLd.is ?_; refine VLd.mk (Rd.cast (.old (hc.part h4) rfl (by simp)) (by first | omega | (dsimp only; omega) | rfl)) ?_)
    | (refine VLd.is ?_; refine VLd.mk (Rd.cast (.old (hc.part hv) rfl (by simp)) (by first | omega | (dsimp only; omega) | rfl)) ?_)
    | (refine VSeq.is ?_; refine VSeq.go ?_)
    | (refine VB.is ?_; refine VB.split (fun _ => ?_) (fun h => absurd (by omega) h))
    | (refine VB.is ?_; refine VB.split (fun h => absurd h (by omega)) (fun _ => ?_))
    | (refine VB.is ?_; refine VB.split (fun _ => ?_) (fun _ => ?_))
    | (refine boolE_split (fun h => ?_) (fun h => ?_) <;> subst h)
    | (refine VLd.is ?_; refine VLd.mk (.row (by repeat (first | exact At.here | apply At.there | with_reducible apply At.app | with_reducible apply At.app2)) (by rfl)) ?_)
    | (refine VSt.is ?_; refine VSt.row (by repeat (first | exact At.here | apply At.there | with_reducible apply At.app | with_reducible apply At.app2)) (by rfl) (by first | rfl | assumption) ?_)
    | (refine VNew.is ?_; refine VNew.mk fun _ => ?_)
    | (refine VAr.is ?_; refine VAr.i64 (by omega) (by omega) ?_)
    | (refine VIx.is ?_; refine VIx.mk rfl (by omega) (by omega) ?_)
    | (refine VKeep.is ?_; refine VKeep.mk (by repeat (first | exact HLe.nil | exact HLe.refl _ | refine HLe.nilv ?_ | (with_reducible refine HLe.seg ?_ ?_; (focus (repeat (first | with_reducible exact AtS.here | with_reducible exact AtS.here2 | exact AtS.last | apply AtS.there | with_reducible apply AtS.app | with_reducible apply AtS.app2)))) | refine HLe.cons (by repeat (first | exact At.here | apply At.there | with_reducible apply At.app | with_reducible apply At.app2)) ?_ | refine HLe.seg (by repeat (first | with_reducible exact AtS.here | with_reducible exact AtS.here2 | exact AtS.last | apply AtS.there | with_reducible apply AtS.app | with_reducible apply AtS.app2)) ?_ | exact HLe.last (by repeat (first | with_reducible exact AtS.here | with_reducible exact AtS.here2 | exact AtS.last | apply AtS.there | with_reducible apply AtS.app | with_reducible apply AtS.app2)))) ?_)
    | (refine VHs.is ?_; refine VHs.mk _ (HLe.refl _) ?_)
    | (refine VQ.is ?_; refine VQ.pos (by omega) (by omega) (by omega) ?_)
    | (refine VM.is ?_; refine VM.pos (by omega) (by omega) ?_)
    | (refine And.intro ?_ ?_)
  all_goals (conv => whnf)
  all_goals exact ⟨fun w' hw' => ⟨rfl, hw'.le .nil⟩⟩


def nilS : Value := .slice none 0 0

/-- The first cells of a simulation. -/
def six (x : SimM) : List Value :=
  [.slice (some ⟨x.pb, 0, none⟩) x.N.ps.length x.pc, .int .i64 x.N.inputs, x.sv, .map (some x.bw), .int .i64 (x.tick : Int), .slice (some ⟨x.sb, 0, none⟩) x.sts.length x.sc]

theorem simC_eq (x : SimM) : simC x = six x ++ x.D.map drowV := rfl

theorem upd_six (x : SimM) (D : List DRow) (v : Value) (h : D.length < 16) :
    upd (six x ++ (D.map drowV ++ List.replicate (16 - D.length) nilS)) (6 + D.length) [v] = some (six x ++ ((D.map drowV ++ [v]) ++ List.replicate (16 - (D.length + 1)) nilS)) := by
  obtain ⟨n, hn⟩ : ∃ n, 16 - D.length = n + 1 := ⟨16 - D.length - 1, by omega⟩
  have hn' : 16 - (D.length + 1) = n := by omega
  rw [hn, hn', upd_mk _ _ _ (by simp [six]; omega)]
  have h6 : (six x).length = 6 := rfl
  have e1 : (six x ++ (D.map drowV ++ List.replicate (n + 1) nilS)).take (6 + D.length) = six x ++ D.map drowV := by
    rw [List.take_append, List.take_of_length_le (by omega), h6, Nat.add_sub_cancel_left, List.take_append_of_le_length (by simp), List.take_of_length_le (by simp)]
  have e2 : (six x ++ (D.map drowV ++ List.replicate (n + 1) nilS)).drop (6 + D.length + [v].length) = List.replicate n nilS := by
    rw [List.drop_append, List.drop_eq_nil_of_le (by simp; omega), List.nil_append, h6, List.drop_append, List.drop_eq_nil_of_le (by simp; omega), List.nil_append]
    simp only [List.length_map, List.length_cons, List.length_nil, List.drop_replicate]
    congr 1
    omega
  rw [e1, e2]
  simp

/-- What holds of every simulation. -/
structure SimOk (x : SimM) : Prop where
  net : NetOk x.N
  rows : WOk x.R
  wired : x.R.map wrowK = wire x.N.syns
  sts : x.sts.length = x.N.ps.length
  due : x.D.length = 16
  cells : ∀ d ∈ x.D, d.l.length = x.N.ps.length

theorem start_any (N : Net) (hN : NetOk N) (pn : Option Addr) (cn bn on : Nat) (qs : Option Addr) (cs bs os : Nat) (w : World) (h1 : Sl w parV 8 N.ps pn N.ps.length bn on) (h2 : Sl w synV 4 N.syns qs N.syns.length bs os) :
    Calls Try.prog 59 #[.agg #[.slice pn N.ps.length cn, .int .i64 N.inputs, .slice qs N.syns.length cs]] w fun e w' => ∃ x : SimM, e = .returned (.pointer (some ⟨x.b, 0, none⟩)) ∧
      (SimOk x ∧ x.N = N ∧ x.tick = 0 ∧ x.sts = List.replicate N.ps.length ⟨0, 0⟩ ∧ x.D.map (·.l) = List.replicate 16 (List.replicate N.ps.length 0)) ∧ St w [] (simH x) w' := by
  have hpos := hN.some
  have hfew := hN.few
  have hfs := hN.fewS
  refine enter (C := Try.cx) (F := Try.fx59) (args := [_]) Try.func59 rfl rfl rfl Try.ok59 (St.start w []) ?_
  refine VSeq.go ?_
  repeat' (conv => whnf); first
    | (refine VNew.is ?_; refine VNew.mk fun b1 => ?_)
    | (refine VB.is ?_; refine VB.split (fun _ => ?_) (fun h => absurd (by omega) h))
    | (refine VB.is ?_; refine VB.split (fun h => absurd h (by omega)) (fun _ => ?_))
    | (refine VB.is ?_; refine VB.split (fun _ => ?_) (fun _ => ?_))
    | (refine boolE_split (fun h => ?_) (fun h => ?_) <;> subst h)
    | (refine VLd.is ?_; refine VLd.mk (.row (by repeat (first | exact At.here | apply At.there | with_reducible apply At.app | with_reducible apply At.app2)) (by rfl)) ?_)
    | (refine VSt.is ?_; refine VSt.row (by repeat (first | exact At.here | apply At.there | with_reducible apply At.app | with_reducible apply At.app2)) (by rfl) (by first | rfl | assumption) ?_)
    | (refine VNew.is ?_; refine VNew.mk fun _ => ?_)
    | (refine VAr.is ?_; refine VAr.i64 (by omega) (by omega) ?_)
    | (refine VIx.is ?_; refine VIx.mk rfl (by omega) (by omega) ?_)
    | (refine VKeep.is ?_; refine VKeep.mk (by repeat (first | exact HLe.nil | exact HLe.refl _ | refine HLe.nilv ?_ | (with_reducible refine HLe.seg ?_ ?_; (focus (repeat (first | with_reducible exact AtS.here | with_reducible exact AtS.here2 | exact AtS.last | apply AtS.there | with_reducible apply AtS.app | with_reducible apply AtS.app2)))) | refine HLe.cons (by repeat (first | exact At.here | apply At.there | with_reducible apply At.app | with_reducible apply At.app2)) ?_ | refine HLe.seg (by repeat (first | with_reducible exact AtS.here | with_reducible exact AtS.here2 | exact AtS.last | apply AtS.there | with_reducible apply AtS.app | with_reducible apply AtS.app2)) ?_ | exact HLe.last (by repeat (first | with_reducible exact AtS.here | with_reducible exact AtS.here2 | exact AtS.last | apply AtS.there | with_reducible apply AtS.app | with_reducible apply AtS.app2)))) ?_)
    | (refine VHs.is ?_; refine VHs.mk _ (HLe.refl _) ?_)
    | (refine VQ.is ?_; refine VQ.pos (by omega) (by omega) (by omega) ?_)
    | (refine VM.is ?_; refine VM.pos (by omega) (by omega) ?_)
    | (refine And.intro ?_ ?_)
  all_goals (conv => whnf)
  repeat' (conv => whnf); first
    | (refine VCall.is ?_; refine VCall.genR (fun w' hw' => clonePar_any N.ps _ _ _ _ _ (h1.keep hw' (by simp)) (by omega)) ?_; rintro ⟨p1, c1⟩ hp1; obtain ⟨g1, hg1⟩ := hp1 (by omega); dsimp only at hg1; subst hg1)
    | (refine VCall.is ?_; refine VCall.genR (fun w' hw' => wired_any N (by omega) _ _ _ _ _ _ (h2.keep hw' (by simp))) ?_; rintro ⟨bw, R⟩ ⟨hw1, hw2⟩; dsimp only at hw1 hw2)
    | (refine VMk.is ?_; refine VMk.mk (by omega) (by omega) (by (try dsimp only); omega) (by omega) fun b2 => ?_)
    | (refine VSeq.is ?_; refine VSeq.cut (at_ := 3) (α := SimM) (fun y => WOk y.R ∧ y.R.map wrowK = wire N.syns ∧ y.N = N ∧ y.tick = 0 ∧ y.sts = List.replicate N.ps.length ⟨0, 0⟩ ∧ y.D = []) (fun y => [(1000000, .tuple #[]), (1, .pointer (some ⟨b1, 0, none⟩)), (3, .pointer (some ⟨y.b, 0, none⟩))]) (fun y => .row b1 25 [.slice (some ⟨y.pb, 0, none⟩) N.ps.length y.pc, .int .i64 N.inputs, y.sv] :: .row y.b 104 [.slice (some ⟨y.pb, 0, none⟩) N.ps.length y.pc, .int .i64 N.inputs, y.sv, .map (some y.bw), .int .i64 0, .slice (some ⟨y.sb, 0, none⟩) N.ps.length N.ps.length, nilS, nilS, nilS, nilS, nilS, nilS, nilS, nilS, nilS, nilS, nilS, nilS, nilS, nilS, nilS, nilS] :: .vec (some ⟨y.sb, 0, none⟩) N.ps.length N.ps.length 98 2 (repL [.int .i64 0, .int .i64 0] N.ps.length) :: .map y.bw (y.R.map wrowM) :: .vec (some ⟨y.pb, 0, none⟩) N.ps.length y.pc 42 8 (flat parV N.ps) :: y.R.map wrowE) ?_ ?_)
    | (refine VSeq.is ?_; refine VSeq.go ?_)
    | (refine VB.is ?_; refine VB.split (fun _ => ?_) (fun h => absurd (by omega) h))
    | (refine VB.is ?_; refine VB.split (fun h => absurd h (by omega)) (fun _ => ?_))
    | (refine VB.is ?_; refine VB.split (fun _ => ?_) (fun _ => ?_))
    | (refine boolE_split (fun h => ?_) (fun h => ?_) <;> subst h)
    | (refine VLd.is ?_; refine VLd.mk (.row (by repeat (first | exact At.here | apply At.there | with_reducible apply At.app | with_reducible apply At.app2)) (by rfl)) ?_)
    | (refine VSt.is ?_; refine VSt.row (by repeat (first | exact At.here | apply At.there | with_reducible apply At.app | with_reducible apply At.app2)) (by rfl) (by first | rfl | assumption) ?_)
    | (refine VNew.is ?_; refine VNew.mk fun _ => ?_)
    | (refine VAr.is ?_; refine VAr.i64 (by omega) (by omega) ?_)
    | (refine VIx.is ?_; refine VIx.mk rfl (by omega) (by omega) ?_)
    | (refine VKeep.is ?_; refine VKeep.mk (by repeat (first | exact HLe.nil | exact HLe.refl _ | refine HLe.nilv ?_ | (with_reducible refine HLe.seg ?_ ?_; (focus (repeat (first | with_reducible exact AtS.here | with_reducible exact AtS.here2 | exact AtS.last | apply AtS.there | with_reducible apply AtS.app | with_reducible apply AtS.app2)))) | refine HLe.cons (by repeat (first | exact At.here | apply At.there | with_reducible apply At.app | with_reducible apply At.app2)) ?_ | refine HLe.seg (by repeat (first | with_reducible exact AtS.here | with_reducible exact AtS.here2 | exact AtS.last | apply AtS.there | with_reducible apply AtS.app | with_reducible apply AtS.app2)) ?_ | exact HLe.last (by repeat (first | with_reducible exact AtS.here | with_reducible exact AtS.here2 | exact AtS.last | apply AtS.there | with_reducible apply AtS.app | with_reducible apply AtS.app2)))) ?_)
    | (refine VHs.is ?_; refine VHs.mk _ (HLe.refl _) ?_)
    | (refine VQ.is ?_; refine VQ.pos (by omega) (by omega) (by omega) ?_)
    | (refine VM.is ?_; refine VM.pos (by omega) (by omega) ?_)
    | (refine And.intro ?_ ?_)
  all_goals (conv => whnf)
  all_goals first
    | (refine VMid.mk ⟨_, N, _, _, _, _, _, 0, _, N.ps.length, List.replicate N.ps.length ⟨0, 0⟩, []⟩ ⟨hw1, hw2, rfl, rfl, rfl, rfl⟩ (by repeat (first | exact trivial | refine ⟨rfl, ?_⟩)) (by repeat (first | exact HLe.nil | exact HLe.refl _ | refine HLe.nilv ?_ | (with_reducible refine HLe.seg ?_ ?_; (focus (repeat (first | with_reducible exact AtS.here | with_reducible exact AtS.here2 | exact AtS.last | apply AtS.there | with_reducible apply AtS.app | with_reducible apply AtS.app2)))) | refine HLe.cons (by repeat (first | exact At.here | apply At.there | with_reducible apply At.app | with_reducible apply At.app2)) ?_ | refine HLe.seg (by repeat (first | with_reducible exact AtS.here | with_reducible exact AtS.here2 | exact AtS.last | apply AtS.there | with_reducible apply AtS.app | with_reducible apply AtS.app2)) ?_ | exact HLe.last (by repeat (first | with_reducible exact AtS.here | with_reducible exact AtS.here2 | exact AtS.last | apply AtS.there | with_reducible apply AtS.app | with_reducible apply AtS.app2)))))
    | skip
  rintro y ⟨hy1, hy2, hy3, hy4, hy5, hy6⟩
  obtain ⟨yb, yN, ypb, ypc, ysv, ybw, yR, ytick, ysb, ysc, ysts, yD⟩ := y
  dsimp only at *
  subst hy3; subst hy4; subst hy5; subst hy6
  repeat' (conv => whnf); first
    | (refine VSeq.is ?_; refine VSeq.go ?_)
    | (refine VB.is ?_; refine VB.split (fun _ => ?_) (fun h => absurd (by omega) h))
    | (refine VB.is ?_; refine VB.split (fun h => absurd h (by omega)) (fun _ => ?_))
    | (refine VB.is ?_; refine VB.split (fun _ => ?_) (fun _ => ?_))
    | (refine boolE_split (fun h => ?_) (fun h => ?_) <;> subst h)
    | (refine VLd.is ?_; refine VLd.mk (.row (by repeat (first | exact At.here | apply At.there | with_reducible apply At.app | with_reducible apply At.app2)) (by rfl)) ?_)
    | (refine VSt.is ?_; refine VSt.row (by repeat (first | exact At.here | apply At.there | with_reducible apply At.app | with_reducible apply At.app2)) (by rfl) (by first | rfl | assumption) ?_)
    | (refine VNew.is ?_; refine VNew.mk fun _ => ?_)
    | (refine VAr.is ?_; refine VAr.i64 (by omega) (by omega) ?_)
    | (refine VIx.is ?_; refine VIx.mk rfl (by omega) (by omega) ?_)
    | (refine VKeep.is ?_; refine VKeep.mk (by repeat (first | exact HLe.nil | exact HLe.refl _ | refine HLe.nilv ?_ | (with_reducible refine HLe.seg ?_ ?_; (focus (repeat (first | with_reducible exact AtS.here | with_reducible exact AtS.here2 | exact AtS.last | apply AtS.there | with_reducible apply AtS.app | with_reducible apply AtS.app2)))) | refine HLe.cons (by repeat (first | exact At.here | apply At.there | with_reducible apply At.app | with_reducible apply At.app2)) ?_ | refine HLe.seg (by repeat (first | with_reducible exact AtS.here | with_reducible exact AtS.here2 | exact AtS.last | apply AtS.there | with_reducible apply AtS.app | with_reducible apply AtS.app2)) ?_ | exact HLe.last (by repeat (first | with_reducible exact AtS.here | with_reducible exact AtS.here2 | exact AtS.last | apply AtS.there | with_reducible apply AtS.app | with_reducible apply AtS.app2)))) ?_)
    | (refine VHs.is ?_; refine VHs.mk _ (HLe.refl _) ?_)
    | (refine VQ.is ?_; refine VQ.pos (by omega) (by omega) (by omega) ?_)
    | (refine VM.is ?_; refine VM.pos (by omega) (by omega) ?_)
    | (refine And.intro ?_ ?_)
  all_goals (conv => whnf)
  refine VLoop.mk (α := List DRow) (fun D => D.length ≤ 16 ∧ D.map (·.l) = List.replicate D.length (List.replicate yN.ps.length 0))
    (fun D => [(1000000, .tuple #[]), (1, .pointer (some ⟨b1, 0, none⟩)), (3, .pointer (some ⟨yb, 0, none⟩)), (18, .int .i64 (D.length : Int))])
    (fun D => .row b1 25 [.slice (some ⟨ypb, 0, none⟩) yN.ps.length ypc, .int .i64 yN.inputs, ysv] :: .row yb 104 (six ⟨yb, yN, ypb, ypc, ysv, ybw, yR, 0, ysb, yN.ps.length, List.replicate yN.ps.length ⟨0, 0⟩, []⟩ ++ (D.map drowV ++ List.replicate (16 - D.length) nilS)) ::
      .vec (some ⟨ysb, 0, none⟩) yN.ps.length yN.ps.length 98 2 (repL [.int .i64 0, .int .i64 0] yN.ps.length) :: .map ybw (yR.map wrowM) :: .vec (some ⟨ypb, 0, none⟩) yN.ps.length ypc 42 8 (flat parV yN.ps) :: (D.map drowE ++ yR.map wrowE))
    (fun D => 16 - D.length) [] ⟨by simp, rfl⟩ (by repeat (first | exact trivial | refine ⟨rfl, ?_⟩)) ?_ ?_
  · have e : six ⟨yb, yN, ypb, ypc, ysv, ybw, yR, 0, ysb, yN.ps.length, List.replicate yN.ps.length ⟨0, 0⟩, []⟩ = [.slice (some ⟨ypb, 0, none⟩) yN.ps.length ypc, .int .i64 yN.inputs, ysv, .map (some ybw), .int .i64 0, .slice (some ⟨ysb, 0, none⟩) yN.ps.length yN.ps.length] := by simp [six]
    rw [e]
    repeat (first | exact HLe.nil | exact HLe.refl _ | refine HLe.nilv ?_ | (with_reducible refine HLe.seg ?_ ?_; (focus (repeat (first | with_reducible exact AtS.here | with_reducible exact AtS.here2 | exact AtS.last | apply AtS.there | with_reducible apply AtS.app | with_reducible apply AtS.app2)))) | refine HLe.cons (by repeat (first | exact At.here | apply At.there | with_reducible apply At.app | with_reducible apply At.app2)) ?_ | refine HLe.seg (by repeat (first | with_reducible exact AtS.here | with_reducible exact AtS.here2 | exact AtS.last | apply AtS.there | with_reducible apply AtS.app | with_reducible apply AtS.app2)) ?_ | exact HLe.last (by repeat (first | with_reducible exact AtS.here | with_reducible exact AtS.here2 | exact AtS.last | apply AtS.there | with_reducible apply AtS.app | with_reducible apply AtS.app2)))
  rintro D ⟨hD, hz⟩
  rcases Nat.lt_or_ge D.length 16 with hlt | hge
  · have hup := fun v => upd_six ⟨yb, yN, ypb, ypc, ysv, ybw, yR, 0, ysb, yN.ps.length, List.replicate yN.ps.length ⟨0, 0⟩, []⟩ D v hlt
    repeat' (conv => whnf); first
      | (refine VMk.is ?_; refine VMk.mk (by omega) (by omega) (by (try dsimp only); omega) (by omega) fun b2 => ?_)
      | (refine VSt.is ?_; refine VSt.cast (off' := 6 + D.length) (by first | omega | (dsimp only; omega)) (VSt.row (by repeat (first | exact At.here | apply At.there | with_reducible apply At.app | with_reducible apply At.app2)) (hup _) rfl ?_))
      | (refine VSeq.is ?_; refine VSeq.go ?_)
      | (refine VB.is ?_; refine VB.split (fun _ => ?_) (fun h => absurd (by omega) h))
      | (refine VB.is ?_; refine VB.split (fun h => absurd h (by omega)) (fun _ => ?_))
      | (refine VB.is ?_; refine VB.split (fun _ => ?_) (fun _ => ?_))
      | (refine boolE_split (fun h => ?_) (fun h => ?_) <;> subst h)
      | (refine VLd.is ?_; refine VLd.mk (.row (by repeat (first | exact At.here | apply At.there | with_reducible apply At.app | with_reducible apply At.app2)) (by rfl)) ?_)
      | (refine VSt.is ?_; refine VSt.row (by repeat (first | exact At.here | apply At.there | with_reducible apply At.app | with_reducible apply At.app2)) (by rfl) (by first | rfl | assumption) ?_)
      | (refine VNew.is ?_; refine VNew.mk fun _ => ?_)
      | (refine VAr.is ?_; refine VAr.i64 (by omega) (by omega) ?_)
      | (refine VIx.is ?_; refine VIx.mk rfl (by omega) (by omega) ?_)
      | (refine VKeep.is ?_; refine VKeep.mk (by repeat (first | exact HLe.nil | exact HLe.refl _ | refine HLe.nilv ?_ | (with_reducible refine HLe.seg ?_ ?_; (focus (repeat (first | with_reducible exact AtS.here | with_reducible exact AtS.here2 | exact AtS.last | apply AtS.there | with_reducible apply AtS.app | with_reducible apply AtS.app2)))) | refine HLe.cons (by repeat (first | exact At.here | apply At.there | with_reducible apply At.app | with_reducible apply At.app2)) ?_ | refine HLe.seg (by repeat (first | with_reducible exact AtS.here | with_reducible exact AtS.here2 | exact AtS.last | apply AtS.there | with_reducible apply AtS.app | with_reducible apply AtS.app2)) ?_ | exact HLe.last (by repeat (first | with_reducible exact AtS.here | with_reducible exact AtS.here2 | exact AtS.last | apply AtS.there | with_reducible apply AtS.app | with_reducible apply AtS.app2)))) ?_)
      | (refine VHs.is ?_; refine VHs.mk _ (HLe.refl _) ?_)
      | (refine VQ.is ?_; refine VQ.pos (by omega) (by omega) (by omega) ?_)
      | (refine VM.is ?_; refine VM.pos (by omega) (by omega) ?_)
      | (refine And.intro ?_ ?_)
    all_goals (conv => whnf)
    refine VNext.mk (D ++ [⟨b2, yN.ps.length, List.replicate yN.ps.length 0⟩]) ⟨by simp; omega, by simp [hz, List.replicate_succ']⟩ (by simp; omega) ?_ ?_
    · simp only [List.length_append, List.length_cons, List.length_nil]
      repeat (first | exact trivial | refine ⟨rfl, ?_⟩)
    · have e1 : (D ++ [(⟨b2, yN.ps.length, List.replicate yN.ps.length 0⟩ : DRow)]).map drowV = D.map drowV ++ [.slice (some ⟨b2, 0, none⟩) yN.ps.length yN.ps.length] := by simp [drowV]
      have e2 : (D ++ [(⟨b2, yN.ps.length, List.replicate yN.ps.length 0⟩ : DRow)]).map drowE = D.map drowE ++ [.vec (some ⟨b2, 0, none⟩) yN.ps.length yN.ps.length 3 1 (repL [.int .i64 0] yN.ps.length)] := by
        have := flat_rep (f := intV) (x := 0) yN.ps.length
        simp only [List.map_append, List.map_cons, List.map_nil, drowE, List.length_replicate]
        rw [← this]; rfl
      dsimp only
      rw [e1, e2, List.length_append, List.length_cons, List.length_nil, List.append_assoc (D.map drowE)]
      refine HLe.cons (by repeat (first | exact At.here | apply At.there | with_reducible apply At.app | with_reducible apply At.app2)) (HLe.cons (by repeat (first | exact At.here | apply At.there | with_reducible apply At.app | with_reducible apply At.app2)) (HLe.cons (by repeat (first | exact At.here | apply At.there | with_reducible apply At.app | with_reducible apply At.app2)) (HLe.cons (by repeat (first | exact At.here | apply At.there | with_reducible apply At.app | with_reducible apply At.app2)) (HLe.cons (by repeat (first | exact At.here | apply At.there | with_reducible apply At.app | with_reducible apply At.app2)) ?_))))
      refine HLe.permL (A := .vec (some ⟨b2, 0, none⟩) yN.ps.length yN.ps.length 3 1 (repL [.int .i64 0] yN.ps.length) :: (D.map drowE ++ yR.map wrowE)) ?_ (by simpa using List.perm_middle)
      repeat (first | exact HLe.nil | exact HLe.refl _ | refine HLe.nilv ?_ | (with_reducible refine HLe.seg ?_ ?_; (focus (repeat (first | with_reducible exact AtS.here | with_reducible exact AtS.here2 | exact AtS.last | apply AtS.there | with_reducible apply AtS.app | with_reducible apply AtS.app2)))) | refine HLe.cons (by repeat (first | exact At.here | apply At.there | with_reducible apply At.app | with_reducible apply At.app2)) ?_ | refine HLe.seg (by repeat (first | with_reducible exact AtS.here | with_reducible exact AtS.here2 | exact AtS.last | apply AtS.there | with_reducible apply AtS.app | with_reducible apply AtS.app2)) ?_ | exact HLe.last (by repeat (first | with_reducible exact AtS.here | with_reducible exact AtS.here2 | exact AtS.last | apply AtS.there | with_reducible apply AtS.app | with_reducible apply AtS.app2)))
  · repeat' (conv => whnf); first
      | (refine VSeq.is ?_; refine VSeq.go ?_)
      | (refine VB.is ?_; refine VB.split (fun _ => ?_) (fun h => absurd (by omega) h))
      | (refine VB.is ?_; refine VB.split (fun h => absurd h (by omega)) (fun _ => ?_))
      | (refine VB.is ?_; refine VB.split (fun _ => ?_) (fun _ => ?_))
      | (refine boolE_split (fun h => ?_) (fun h => ?_) <;> subst h)
      | (refine VLd.is ?_; refine VLd.mk (.row (by repeat (first | exact At.here | apply At.there | with_reducible apply At.app | with_reducible apply At.app2)) (by rfl)) ?_)
      | (refine VSt.is ?_; refine VSt.row (by repeat (first | exact At.here | apply At.there | with_reducible apply At.app | with_reducible apply At.app2)) (by rfl) (by first | rfl | assumption) ?_)
      | (refine VNew.is ?_; refine VNew.mk fun _ => ?_)
      | (refine VAr.is ?_; refine VAr.i64 (by omega) (by omega) ?_)
      | (refine VIx.is ?_; refine VIx.mk rfl (by omega) (by omega) ?_)
      | (refine VKeep.is ?_; refine VKeep.mk (by repeat (first | exact HLe.nil | exact HLe.refl _ | refine HLe.nilv ?_ | (with_reducible refine HLe.seg ?_ ?_; (focus (repeat (first | with_reducible exact AtS.here | with_reducible exact AtS.here2 | exact AtS.last | apply AtS.there | with_reducible apply AtS.app | with_reducible apply AtS.app2)))) | refine HLe.cons (by repeat (first | exact At.here | apply At.there | with_reducible apply At.app | with_reducible apply At.app2)) ?_ | refine HLe.seg (by repeat (first | with_reducible exact AtS.here | with_reducible exact AtS.here2 | exact AtS.last | apply AtS.there | with_reducible apply AtS.app | with_reducible apply AtS.app2)) ?_ | exact HLe.last (by repeat (first | with_reducible exact AtS.here | with_reducible exact AtS.here2 | exact AtS.last | apply AtS.there | with_reducible apply AtS.app | with_reducible apply AtS.app2)))) ?_)
      | (refine VHs.is ?_; refine VHs.mk _ (HLe.refl _) ?_)
      | (refine VQ.is ?_; refine VQ.pos (by omega) (by omega) (by omega) ?_)
      | (refine VM.is ?_; refine VM.pos (by omega) (by omega) ?_)
      | (refine And.intro ?_ ?_)
    all_goals (conv => whnf)
    refine ⟨fun w' hw' => ⟨⟨yb, yN, ypb, ypc, ysv, ybw, yR, 0, ysb, yN.ps.length, List.replicate yN.ps.length ⟨0, 0⟩, D⟩, rfl, ⟨⟨hN, hy1, hy2, by simp, (show D.length = 16 by omega), fun d hd => ?_⟩, rfl, rfl, rfl, ?_⟩, ?_⟩⟩
    · have : d.l ∈ D.map (·.l) := List.mem_map_of_mem hd
      rw [hz] at this
      rw [(List.mem_replicate.1 this).2]
      simp
    · rw [hz, show D.length = 16 by omega]
    · have h16 : 16 - D.length = 0 := by omega
      rw [h16] at hw'
      have e := flat_rep (f := staV) (x := ⟨0, 0⟩) yN.ps.length
      refine hw'.le ?_
      unfold simH ownH shrH simC
      dsimp only
      rw [List.length_replicate, ← e]
      refine HLe.cons (x := .row yb 104 _) (u := _) (r := _) (by
        have e2 : ∀ (X : List Value), X ++ ([] : List Value) = X := List.append_nil
        simp only [six, List.length_replicate, List.replicate_zero, List.append_nil, List.cons_append, List.nil_append]
        repeat (first | exact At.here | apply At.there | with_reducible apply At.app | with_reducible apply At.app2)) ?_
      repeat (first | exact HLe.nil | exact HLe.refl _ | refine HLe.nilv ?_ | (with_reducible refine HLe.seg ?_ ?_; (focus (repeat (first | with_reducible exact AtS.here | with_reducible exact AtS.here2 | exact AtS.last | apply AtS.there | with_reducible apply AtS.app | with_reducible apply AtS.app2)))) | refine HLe.cons (by repeat (first | exact At.here | apply At.there | with_reducible apply At.app | with_reducible apply At.app2)) ?_ | refine HLe.seg (by repeat (first | with_reducible exact AtS.here | with_reducible exact AtS.here2 | exact AtS.last | apply AtS.there | with_reducible apply AtS.app | with_reducible apply AtS.app2)) ?_ | exact HLe.last (by repeat (first | with_reducible exact AtS.here | with_reducible exact AtS.here2 | exact AtS.last | apply AtS.there | with_reducible apply AtS.app | with_reducible apply AtS.app2)))

end Go.Proofs
