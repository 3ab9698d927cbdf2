/-
  No cell of these rows narrows 'for every input' (looked for: loops, veiled, ifaces, maps, wideKeys, modest, calm, conditions, laid).
  DERIVED. THE GIVEN ROWS OF THIS SEAT. 8 by the template 'for every input the law returns true; each argument reads behind the call as it read before'; 0 by the template 'total and deterministic' (their statements: YtlbekjokdlkghaaGreatTotals.lean).
  GIVEN WITH THE SEED: the statements are not yours to turn. If you find one false, say at which input.
  Laid BY PROGRAM, IN A SANDBOX (cutbox-rows.mjs): the forced cells as the released guide's own fill.sh prints them over the translation 06d9667a887c01ad… (all of the seat's roots in one cut). By AI agents, Wed Nov 11 2026. No macro, syntax, notation, axiom, sorry.
-/
import Derived.Test.YtlbekjokdlkghaaGreatChecked
import GoSem.Claim
import GoSem.ClaimJoined
import GoSem.ClaimMapViews
import Derived.JoinedTies
import Derived.KernelRfl
namespace Go.Proofs.YtlbekjokdlkghaaGreat
/- THE CELL 'sum', in the pinned program and in every row, IS THE sha256 OF THE DUMP (.gsa) THAT YtlbekjokdlkghaaGreatProg.lean LOADS. Nothing in Lean hashes anything: it is a label: what it is worth is what the hold of that sum in a sandbox is worth. -/
noncomputable def Tryz.pinned : Pinned := { name := "ytlbekjokdlkghaagreat", sum := "06d9667a887c01ad2d07d7937a51365bec8f5686f498a442725f747a9378d1fe", checked := Tryz.checked }
namespace Rows
def none {H : Type} : Left H := { results := [], args := [] }

/-- 'ganglionlaw08.ChipRuns': WHATEVER THE INPUT: true; the input reads as it did. -/
def chipRunsSpec : ChangeSpec := { name := "chipRuns", fn := fun _ => fun
  | [d] => { results := [.lit (.bool true)], args := [d] }
  | _ => none }
def chipRunsRow : OpenClaim := { program := "ytlbekjokdlkghaagreat", sum := "06d9667a887c01ad2d07d7937a51365bec8f5686f498a442725f747a9378d1fe", func := "ganglion/ganglionlaw08.ChipRuns", spec := "chipRuns", unfollowed := true, recurses := true, plainKeys := false, apart := false }
def ChipRunsSaid : Prop := chipRunsRow.holds Tryz.pinned (OpenSpec.ofChange chipRunsSpec)

/-- ITS FALSE NEIGHBOUR: 'it returns false'. Refute it at one input. -/
def chipRunsWrong : ChangeSpec := { name := "chipRuns", fn := fun _ => fun
  | [d] => { results := [.lit (.bool false)], args := [d] }
  | _ => none }
def ChipRunsWrongFalsely : Prop := chipRunsRow.holds Tryz.pinned (OpenSpec.ofChange chipRunsWrong)

/-- 'ganglionlaw08.ChipEnergies': WHATEVER THE INPUT: true; the input reads as it did. -/
def chipEnergiesSpec : ChangeSpec := { name := "chipEnergies", fn := fun _ => fun
  | [d1, d2] => { results := [.lit (.bool true)], args := [d1, d2] }
  | _ => none }
def chipEnergiesRow : OpenClaim := { program := "ytlbekjokdlkghaagreat", sum := "06d9667a887c01ad2d07d7937a51365bec8f5686f498a442725f747a9378d1fe", func := "ganglion/ganglionlaw08.ChipEnergies", spec := "chipEnergies", unfollowed := true, recurses := true, plainKeys := false, apart := false }
def ChipEnergiesSaid : Prop := chipEnergiesRow.holds Tryz.pinned (OpenSpec.ofChange chipEnergiesSpec)

/-- ITS FALSE NEIGHBOUR: 'it returns false'. Refute it at one input. -/
def chipEnergiesWrong : ChangeSpec := { name := "chipEnergies", fn := fun _ => fun
  | [d1, d2] => { results := [.lit (.bool false)], args := [d1, d2] }
  | _ => none }
def ChipEnergiesWrongFalsely : Prop := chipEnergiesRow.holds Tryz.pinned (OpenSpec.ofChange chipEnergiesWrong)

/-- 'ganglionlaw08.ChipWork': WHATEVER THE INPUT: true; the input reads as it did. -/
def chipWorkSpec : ChangeSpec := { name := "chipWork", fn := fun _ => fun
  | [d] => { results := [.lit (.bool true)], args := [d] }
  | _ => none }
def chipWorkRow : OpenClaim := { program := "ytlbekjokdlkghaagreat", sum := "06d9667a887c01ad2d07d7937a51365bec8f5686f498a442725f747a9378d1fe", func := "ganglion/ganglionlaw08.ChipWork", spec := "chipWork", unfollowed := true, recurses := true, plainKeys := false, apart := false }
def ChipWorkSaid : Prop := chipWorkRow.holds Tryz.pinned (OpenSpec.ofChange chipWorkSpec)

/-- ITS FALSE NEIGHBOUR: 'it returns false'. Refute it at one input. -/
def chipWorkWrong : ChangeSpec := { name := "chipWork", fn := fun _ => fun
  | [d] => { results := [.lit (.bool false)], args := [d] }
  | _ => none }
def ChipWorkWrongFalsely : Prop := chipWorkRow.holds Tryz.pinned (OpenSpec.ofChange chipWorkWrong)

/-- 'ganglionlaw08.ChipCompares': WHATEVER THE INPUT: true; the input reads as it did. -/
def chipComparesSpec : ChangeSpec := { name := "chipCompares", fn := fun _ => fun
  | [d] => { results := [.lit (.bool true)], args := [d] }
  | _ => none }
def chipComparesRow : OpenClaim := { program := "ytlbekjokdlkghaagreat", sum := "06d9667a887c01ad2d07d7937a51365bec8f5686f498a442725f747a9378d1fe", func := "ganglion/ganglionlaw08.ChipCompares", spec := "chipCompares", unfollowed := true, recurses := true, plainKeys := false, apart := false }
def ChipComparesSaid : Prop := chipComparesRow.holds Tryz.pinned (OpenSpec.ofChange chipComparesSpec)

/-- ITS FALSE NEIGHBOUR: 'it returns false'. Refute it at one input. -/
def chipComparesWrong : ChangeSpec := { name := "chipCompares", fn := fun _ => fun
  | [d] => { results := [.lit (.bool false)], args := [d] }
  | _ => none }
def ChipComparesWrongFalsely : Prop := chipComparesRow.holds Tryz.pinned (OpenSpec.ofChange chipComparesWrong)

/-- 'ganglionlaw08.ChipSame': WHATEVER THE INPUT: true; the input reads as it did. -/
def chipSameSpec : ChangeSpec := { name := "chipSame", fn := fun _ => fun
  | [d] => { results := [.lit (.bool true)], args := [d] }
  | _ => none }
def chipSameRow : OpenClaim := { program := "ytlbekjokdlkghaagreat", sum := "06d9667a887c01ad2d07d7937a51365bec8f5686f498a442725f747a9378d1fe", func := "ganglion/ganglionlaw08.ChipSame", spec := "chipSame", unfollowed := true, recurses := true, plainKeys := false, apart := false }
def ChipSameSaid : Prop := chipSameRow.holds Tryz.pinned (OpenSpec.ofChange chipSameSpec)

/-- ITS FALSE NEIGHBOUR: 'it returns false'. Refute it at one input. -/
def chipSameWrong : ChangeSpec := { name := "chipSame", fn := fun _ => fun
  | [d] => { results := [.lit (.bool false)], args := [d] }
  | _ => none }
def ChipSameWrongFalsely : Prop := chipSameRow.holds Tryz.pinned (OpenSpec.ofChange chipSameWrong)

/-- 'ganglionlaw08.ChipMoves': WHATEVER THE INPUT: true; the input reads as it did. -/
def chipMovesSpec : ChangeSpec := { name := "chipMoves", fn := fun _ => fun
  | [d1, d2, d3] => { results := [.lit (.bool true)], args := [d1, d2, d3] }
  | _ => none }
def chipMovesRow : OpenClaim := { program := "ytlbekjokdlkghaagreat", sum := "06d9667a887c01ad2d07d7937a51365bec8f5686f498a442725f747a9378d1fe", func := "ganglion/ganglionlaw08.ChipMoves", spec := "chipMoves", unfollowed := true, recurses := true, plainKeys := false, apart := false }
def ChipMovesSaid : Prop := chipMovesRow.holds Tryz.pinned (OpenSpec.ofChange chipMovesSpec)

/-- ITS FALSE NEIGHBOUR: 'it returns false'. Refute it at one input. -/
def chipMovesWrong : ChangeSpec := { name := "chipMoves", fn := fun _ => fun
  | [d1, d2, d3] => { results := [.lit (.bool false)], args := [d1, d2, d3] }
  | _ => none }
def ChipMovesWrongFalsely : Prop := chipMovesRow.holds Tryz.pinned (OpenSpec.ofChange chipMovesWrong)

/-- 'ganglionlaw08.ChipSteps': WHATEVER THE INPUT: true; the input reads as it did. -/
def chipStepsSpec : ChangeSpec := { name := "chipSteps", fn := fun _ => fun
  | [d1, d2] => { results := [.lit (.bool true)], args := [d1, d2] }
  | _ => none }
def chipStepsRow : OpenClaim := { program := "ytlbekjokdlkghaagreat", sum := "06d9667a887c01ad2d07d7937a51365bec8f5686f498a442725f747a9378d1fe", func := "ganglion/ganglionlaw08.ChipSteps", spec := "chipSteps", unfollowed := true, recurses := true, plainKeys := false, apart := false }
def ChipStepsSaid : Prop := chipStepsRow.holds Tryz.pinned (OpenSpec.ofChange chipStepsSpec)

/-- ITS FALSE NEIGHBOUR: 'it returns false'. Refute it at one input. -/
def chipStepsWrong : ChangeSpec := { name := "chipSteps", fn := fun _ => fun
  | [d1, d2] => { results := [.lit (.bool false)], args := [d1, d2] }
  | _ => none }
def ChipStepsWrongFalsely : Prop := chipStepsRow.holds Tryz.pinned (OpenSpec.ofChange chipStepsWrong)

/-- 'ganglionlaw08.ChipKnown': WHATEVER THE INPUT: true; the input reads as it did. -/
def chipKnownSpec : ChangeSpec := { name := "chipKnown", fn := fun _ => fun
  | [] => { results := [.lit (.bool true)], args := [] }
  | _ => none }
def chipKnownRow : OpenClaim := { program := "ytlbekjokdlkghaagreat", sum := "06d9667a887c01ad2d07d7937a51365bec8f5686f498a442725f747a9378d1fe", func := "ganglion/ganglionlaw08.ChipKnown", spec := "chipKnown", unfollowed := true, recurses := true, plainKeys := false, apart := false }
def ChipKnownSaid : Prop := chipKnownRow.holds Tryz.pinned (OpenSpec.ofChange chipKnownSpec)

/-- ITS FALSE NEIGHBOUR: 'it returns false'. Refute it at one input. -/
def chipKnownWrong : ChangeSpec := { name := "chipKnown", fn := fun _ => fun
  | [] => { results := [.lit (.bool false)], args := [] }
  | _ => none }
def ChipKnownWrongFalsely : Prop := chipKnownRow.holds Tryz.pinned (OpenSpec.ofChange chipKnownWrong)

/- THE SECOND FORM. 'bulk': how many values and letters a reading holds, each counted each time it is reached (what is shared counts as often as it is met; a slice's spare places count too). A statement '..UptoSaid' is the law's where the arguments, and the package variables that the reading takes, are together of bulk at most 1048576: NARROWER than '..Said'. Prove '..Said' where nothing that the law and all that it calls make is longer than what came in: it says more and counts as full. Else prove '..UptoSaid'. A law counts once. -/
mutual
def uptoBulk {H : Type} : DataW H → Nat
  | .lit (.string bytes) => bytes.length + 1
  | .lit _ => 1
  | .nil => 1
  | .ptr d => uptoBulk d + 1
  | .slice elems spare => uptoBulkAll elems + uptoBulkAll spare + 1
  | .agg parts => uptoBulkAll parts + 1
  | .iface _ d => uptoBulk d + 1
  | .map entries => uptoBulkEntries entries + 1
  | .held _ => 1
def uptoBulkAll {H : Type} : List (DataW H) → Nat
  | [] => 0
  | d :: r => uptoBulk d + uptoBulkAll r
def uptoBulkEntries {H : Type} : List (Lit × DataW H) → Nat
  | [] => 0
  | x :: r => uptoBulkEntry x + uptoBulkEntries r
def uptoBulkEntry {H : Type} : Lit × DataW H → Nat
  | (.string bytes, d) => bytes.length + uptoBulk d + 1
  | (_, d) => uptoBulk d + 1
 end
def uptoSmall : (H : Type) → List (DataW H) → Bool := fun _ ds => decide (uptoBulkAll ds ≤ 1048576)
def OpenSpec.upto (s : _root_.Go.ChangeSpec) : _root_.Go.OpenSpec := { _root_.Go.OpenSpec.ofChange s with cond := some uptoSmall }

/-- 'ganglionlaw08.ChipRuns', WHERE WHAT IT READS IS OF BULK AT MOST 1048576: true; the input reads as it did. -/
def chipRunsUptoRow : OpenClaim := { program := "ytlbekjokdlkghaagreat", sum := "06d9667a887c01ad2d07d7937a51365bec8f5686f498a442725f747a9378d1fe", func := "ganglion/ganglionlaw08.ChipRuns", spec := "chipRuns", unfollowed := true, recurses := true, plainKeys := false, apart := false, narrowed := true }
def ChipRunsUptoSaid : Prop := chipRunsUptoRow.holds Tryz.pinned (OpenSpec.upto chipRunsSpec)

/-- 'ganglionlaw08.ChipEnergies', WHERE WHAT IT READS IS OF BULK AT MOST 1048576: true; the input reads as it did. -/
def chipEnergiesUptoRow : OpenClaim := { program := "ytlbekjokdlkghaagreat", sum := "06d9667a887c01ad2d07d7937a51365bec8f5686f498a442725f747a9378d1fe", func := "ganglion/ganglionlaw08.ChipEnergies", spec := "chipEnergies", unfollowed := true, recurses := true, plainKeys := false, apart := false, narrowed := true }
def ChipEnergiesUptoSaid : Prop := chipEnergiesUptoRow.holds Tryz.pinned (OpenSpec.upto chipEnergiesSpec)

/-- 'ganglionlaw08.ChipWork', WHERE WHAT IT READS IS OF BULK AT MOST 1048576: true; the input reads as it did. -/
def chipWorkUptoRow : OpenClaim := { program := "ytlbekjokdlkghaagreat", sum := "06d9667a887c01ad2d07d7937a51365bec8f5686f498a442725f747a9378d1fe", func := "ganglion/ganglionlaw08.ChipWork", spec := "chipWork", unfollowed := true, recurses := true, plainKeys := false, apart := false, narrowed := true }
def ChipWorkUptoSaid : Prop := chipWorkUptoRow.holds Tryz.pinned (OpenSpec.upto chipWorkSpec)

/-- 'ganglionlaw08.ChipCompares', WHERE WHAT IT READS IS OF BULK AT MOST 1048576: true; the input reads as it did. -/
def chipComparesUptoRow : OpenClaim := { program := "ytlbekjokdlkghaagreat", sum := "06d9667a887c01ad2d07d7937a51365bec8f5686f498a442725f747a9378d1fe", func := "ganglion/ganglionlaw08.ChipCompares", spec := "chipCompares", unfollowed := true, recurses := true, plainKeys := false, apart := false, narrowed := true }
def ChipComparesUptoSaid : Prop := chipComparesUptoRow.holds Tryz.pinned (OpenSpec.upto chipComparesSpec)

/-- 'ganglionlaw08.ChipSame', WHERE WHAT IT READS IS OF BULK AT MOST 1048576: true; the input reads as it did. -/
def chipSameUptoRow : OpenClaim := { program := "ytlbekjokdlkghaagreat", sum := "06d9667a887c01ad2d07d7937a51365bec8f5686f498a442725f747a9378d1fe", func := "ganglion/ganglionlaw08.ChipSame", spec := "chipSame", unfollowed := true, recurses := true, plainKeys := false, apart := false, narrowed := true }
def ChipSameUptoSaid : Prop := chipSameUptoRow.holds Tryz.pinned (OpenSpec.upto chipSameSpec)

/-- 'ganglionlaw08.ChipMoves', WHERE WHAT IT READS IS OF BULK AT MOST 1048576: true; the input reads as it did. -/
def chipMovesUptoRow : OpenClaim := { program := "ytlbekjokdlkghaagreat", sum := "06d9667a887c01ad2d07d7937a51365bec8f5686f498a442725f747a9378d1fe", func := "ganglion/ganglionlaw08.ChipMoves", spec := "chipMoves", unfollowed := true, recurses := true, plainKeys := false, apart := false, narrowed := true }
def ChipMovesUptoSaid : Prop := chipMovesUptoRow.holds Tryz.pinned (OpenSpec.upto chipMovesSpec)

/-- 'ganglionlaw08.ChipSteps', WHERE WHAT IT READS IS OF BULK AT MOST 1048576: true; the input reads as it did. -/
def chipStepsUptoRow : OpenClaim := { program := "ytlbekjokdlkghaagreat", sum := "06d9667a887c01ad2d07d7937a51365bec8f5686f498a442725f747a9378d1fe", func := "ganglion/ganglionlaw08.ChipSteps", spec := "chipSteps", unfollowed := true, recurses := true, plainKeys := false, apart := false, narrowed := true }
def ChipStepsUptoSaid : Prop := chipStepsUptoRow.holds Tryz.pinned (OpenSpec.upto chipStepsSpec)

/-- 'ganglionlaw08.ChipKnown', WHERE WHAT IT READS IS OF BULK AT MOST 1048576: true; the input reads as it did. -/
def chipKnownUptoRow : OpenClaim := { program := "ytlbekjokdlkghaagreat", sum := "06d9667a887c01ad2d07d7937a51365bec8f5686f498a442725f747a9378d1fe", func := "ganglion/ganglionlaw08.ChipKnown", spec := "chipKnown", unfollowed := true, recurses := true, plainKeys := false, apart := false, narrowed := true }
def ChipKnownUptoSaid : Prop := chipKnownUptoRow.holds Tryz.pinned (OpenSpec.upto chipKnownSpec)

end Rows
end Go.Proofs.YtlbekjokdlkghaaGreat
