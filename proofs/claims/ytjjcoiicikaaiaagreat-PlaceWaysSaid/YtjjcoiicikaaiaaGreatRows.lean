/-
  No cell of these rows narrows 'for every input' (looked for: loops, veiled, ifaces, maps, wideKeys, modest, calm, conditions, laid).
  DERIVED. THE GIVEN ROWS OF THIS SEAT. 12 by the template 'for every input the law returns true; each argument reads behind the call as it read before'; 0 by the template 'total and deterministic' (their statements: YtjjcoiicikaaiaaGreatTotals.lean).
  GIVEN WITH THE SEED: the statements are not yours to turn. If you find one false, say at which input.
  Laid BY PROGRAM, IN A SANDBOX (cutbox-rows.mjs): the forced cells as the released guide's own fill.sh prints them over the translation c44bc2ac8780b4a4… (all of the seat's roots in one cut). By AI agents, Wed Nov 11 2026. No macro, syntax, notation, axiom, sorry.
-/
import Derived.Test.YtjjcoiicikaaiaaGreatChecked
import GoSem.Claim
import GoSem.ClaimJoined
import GoSem.ClaimMapViews
import Derived.JoinedTies
import Derived.KernelRfl
namespace Go.Proofs.YtjjcoiicikaaiaaGreat
/- THE CELL 'sum', in the pinned program and in every row, IS THE sha256 OF THE DUMP (.gsa) THAT YtjjcoiicikaaiaaGreatProg.lean LOADS. Nothing in Lean hashes anything: it is a label: what it is worth is what the hold of that sum in a sandbox is worth. -/
noncomputable def Tryz.pinned : Pinned := { name := "ytjjcoiicikaaiaagreat", sum := "c44bc2ac8780b4a4e576f8da427da8b35dd18b67fbe85fe18632860ce3dcab02", checked := Tryz.checked }
namespace Rows
def none {H : Type} : Left H := { results := [], args := [] }

/-- 'ganglionlaw07.PlaceChips': WHATEVER THE INPUT: true; the input reads as it did. -/
def placeChipsSpec : ChangeSpec := { name := "placeChips", fn := fun _ => fun
  | [d] => { results := [.lit (.bool true)], args := [d] }
  | _ => none }
def placeChipsRow : OpenClaim := { program := "ytjjcoiicikaaiaagreat", sum := "c44bc2ac8780b4a4e576f8da427da8b35dd18b67fbe85fe18632860ce3dcab02", func := "ganglion/ganglionlaw07.PlaceChips", spec := "placeChips", unfollowed := true, recurses := true, plainKeys := false, apart := false }
def PlaceChipsSaid : Prop := placeChipsRow.holds Tryz.pinned (OpenSpec.ofChange placeChipsSpec)

/-- ITS FALSE NEIGHBOUR: 'it returns false'. Refute it at one input. -/
def placeChipsWrong : ChangeSpec := { name := "placeChips", fn := fun _ => fun
  | [d] => { results := [.lit (.bool false)], args := [d] }
  | _ => none }
def PlaceChipsWrongFalsely : Prop := placeChipsRow.holds Tryz.pinned (OpenSpec.ofChange placeChipsWrong)

/-- 'ganglionlaw07.PlaceQuants': WHATEVER THE INPUT: true; the input reads as it did. -/
def placeQuantsSpec : ChangeSpec := { name := "placeQuants", fn := fun _ => fun
  | [d1, d2] => { results := [.lit (.bool true)], args := [d1, d2] }
  | _ => none }
def placeQuantsRow : OpenClaim := { program := "ytjjcoiicikaaiaagreat", sum := "c44bc2ac8780b4a4e576f8da427da8b35dd18b67fbe85fe18632860ce3dcab02", func := "ganglion/ganglionlaw07.PlaceQuants", spec := "placeQuants", unfollowed := true, recurses := true, plainKeys := false, apart := false }
def PlaceQuantsSaid : Prop := placeQuantsRow.holds Tryz.pinned (OpenSpec.ofChange placeQuantsSpec)

/-- ITS FALSE NEIGHBOUR: 'it returns false'. Refute it at one input. -/
def placeQuantsWrong : ChangeSpec := { name := "placeQuants", fn := fun _ => fun
  | [d1, d2] => { results := [.lit (.bool false)], args := [d1, d2] }
  | _ => none }
def PlaceQuantsWrongFalsely : Prop := placeQuantsRow.holds Tryz.pinned (OpenSpec.ofChange placeQuantsWrong)

/-- 'ganglionlaw07.PlacePlaces': WHATEVER THE INPUT: true; the input reads as it did. -/
def placePlacesSpec : ChangeSpec := { name := "placePlaces", fn := fun _ => fun
  | [d1, d2] => { results := [.lit (.bool true)], args := [d1, d2] }
  | _ => none }
def placePlacesRow : OpenClaim := { program := "ytjjcoiicikaaiaagreat", sum := "c44bc2ac8780b4a4e576f8da427da8b35dd18b67fbe85fe18632860ce3dcab02", func := "ganglion/ganglionlaw07.PlacePlaces", spec := "placePlaces", unfollowed := true, recurses := true, plainKeys := false, apart := false }
def PlacePlacesSaid : Prop := placePlacesRow.holds Tryz.pinned (OpenSpec.ofChange placePlacesSpec)

/-- ITS FALSE NEIGHBOUR: 'it returns false'. Refute it at one input. -/
def placePlacesWrong : ChangeSpec := { name := "placePlaces", fn := fun _ => fun
  | [d1, d2] => { results := [.lit (.bool false)], args := [d1, d2] }
  | _ => none }
def PlacePlacesWrongFalsely : Prop := placePlacesRow.holds Tryz.pinned (OpenSpec.ofChange placePlacesWrong)

/-- 'ganglionlaw07.PlaceMaps': WHATEVER THE INPUT: true; the input reads as it did. -/
def placeMapsSpec : ChangeSpec := { name := "placeMaps", fn := fun _ => fun
  | [d1, d2, d3] => { results := [.lit (.bool true)], args := [d1, d2, d3] }
  | _ => none }
def placeMapsRow : OpenClaim := { program := "ytjjcoiicikaaiaagreat", sum := "c44bc2ac8780b4a4e576f8da427da8b35dd18b67fbe85fe18632860ce3dcab02", func := "ganglion/ganglionlaw07.PlaceMaps", spec := "placeMaps", unfollowed := true, recurses := true, plainKeys := false, apart := false }
def PlaceMapsSaid : Prop := placeMapsRow.holds Tryz.pinned (OpenSpec.ofChange placeMapsSpec)

/-- ITS FALSE NEIGHBOUR: 'it returns false'. Refute it at one input. -/
def placeMapsWrong : ChangeSpec := { name := "placeMaps", fn := fun _ => fun
  | [d1, d2, d3] => { results := [.lit (.bool false)], args := [d1, d2, d3] }
  | _ => none }
def PlaceMapsWrongFalsely : Prop := placeMapsRow.holds Tryz.pinned (OpenSpec.ofChange placeMapsWrong)

/-- 'ganglionlaw07.PlaceErrors': WHATEVER THE INPUT: true; the input reads as it did. -/
def placeErrorsSpec : ChangeSpec := { name := "placeErrors", fn := fun _ => fun
  | [d1, d2] => { results := [.lit (.bool true)], args := [d1, d2] }
  | _ => none }
def placeErrorsRow : OpenClaim := { program := "ytjjcoiicikaaiaagreat", sum := "c44bc2ac8780b4a4e576f8da427da8b35dd18b67fbe85fe18632860ce3dcab02", func := "ganglion/ganglionlaw07.PlaceErrors", spec := "placeErrors", unfollowed := true, recurses := true, plainKeys := false, apart := false }
def PlaceErrorsSaid : Prop := placeErrorsRow.holds Tryz.pinned (OpenSpec.ofChange placeErrorsSpec)

/-- ITS FALSE NEIGHBOUR: 'it returns false'. Refute it at one input. -/
def placeErrorsWrong : ChangeSpec := { name := "placeErrors", fn := fun _ => fun
  | [d1, d2] => { results := [.lit (.bool false)], args := [d1, d2] }
  | _ => none }
def PlaceErrorsWrongFalsely : Prop := placeErrorsRow.holds Tryz.pinned (OpenSpec.ofChange placeErrorsWrong)

/-- 'ganglionlaw07.PlaceRows': WHATEVER THE INPUT: true; the input reads as it did. -/
def placeRowsSpec : ChangeSpec := { name := "placeRows", fn := fun _ => fun
  | [d1, d2, d3] => { results := [.lit (.bool true)], args := [d1, d2, d3] }
  | _ => none }
def placeRowsRow : OpenClaim := { program := "ytjjcoiicikaaiaagreat", sum := "c44bc2ac8780b4a4e576f8da427da8b35dd18b67fbe85fe18632860ce3dcab02", func := "ganglion/ganglionlaw07.PlaceRows", spec := "placeRows", unfollowed := true, recurses := true, plainKeys := false, apart := false }
def PlaceRowsSaid : Prop := placeRowsRow.holds Tryz.pinned (OpenSpec.ofChange placeRowsSpec)

/-- ITS FALSE NEIGHBOUR: 'it returns false'. Refute it at one input. -/
def placeRowsWrong : ChangeSpec := { name := "placeRows", fn := fun _ => fun
  | [d1, d2, d3] => { results := [.lit (.bool false)], args := [d1, d2, d3] }
  | _ => none }
def PlaceRowsWrongFalsely : Prop := placeRowsRow.holds Tryz.pinned (OpenSpec.ofChange placeRowsWrong)

/-- 'ganglionlaw07.PlaceCosts': WHATEVER THE INPUT: true; the input reads as it did. -/
def placeCostsSpec : ChangeSpec := { name := "placeCosts", fn := fun _ => fun
  | [d1, d2, d3] => { results := [.lit (.bool true)], args := [d1, d2, d3] }
  | _ => none }
def placeCostsRow : OpenClaim := { program := "ytjjcoiicikaaiaagreat", sum := "c44bc2ac8780b4a4e576f8da427da8b35dd18b67fbe85fe18632860ce3dcab02", func := "ganglion/ganglionlaw07.PlaceCosts", spec := "placeCosts", unfollowed := true, recurses := true, plainKeys := false, apart := false }
def PlaceCostsSaid : Prop := placeCostsRow.holds Tryz.pinned (OpenSpec.ofChange placeCostsSpec)

/-- ITS FALSE NEIGHBOUR: 'it returns false'. Refute it at one input. -/
def placeCostsWrong : ChangeSpec := { name := "placeCosts", fn := fun _ => fun
  | [d1, d2, d3] => { results := [.lit (.bool false)], args := [d1, d2, d3] }
  | _ => none }
def PlaceCostsWrongFalsely : Prop := placeCostsRow.holds Tryz.pinned (OpenSpec.ofChange placeCostsWrong)

/-- 'ganglionlaw07.PlaceImproves': WHATEVER THE INPUT: true; the input reads as it did. -/
def placeImprovesSpec : ChangeSpec := { name := "placeImproves", fn := fun _ => fun
  | [d1, d2, d3, d4] => { results := [.lit (.bool true)], args := [d1, d2, d3, d4] }
  | _ => none }
def placeImprovesRow : OpenClaim := { program := "ytjjcoiicikaaiaagreat", sum := "c44bc2ac8780b4a4e576f8da427da8b35dd18b67fbe85fe18632860ce3dcab02", func := "ganglion/ganglionlaw07.PlaceImproves", spec := "placeImproves", unfollowed := true, recurses := true, plainKeys := false, apart := false }
def PlaceImprovesSaid : Prop := placeImprovesRow.holds Tryz.pinned (OpenSpec.ofChange placeImprovesSpec)

/-- ITS FALSE NEIGHBOUR: 'it returns false'. Refute it at one input. -/
def placeImprovesWrong : ChangeSpec := { name := "placeImproves", fn := fun _ => fun
  | [d1, d2, d3, d4] => { results := [.lit (.bool false)], args := [d1, d2, d3, d4] }
  | _ => none }
def PlaceImprovesWrongFalsely : Prop := placeImprovesRow.holds Tryz.pinned (OpenSpec.ofChange placeImprovesWrong)

/-- 'ganglionlaw07.PlaceAlone': WHATEVER THE INPUT: true; the input reads as it did. -/
def placeAloneSpec : ChangeSpec := { name := "placeAlone", fn := fun _ => fun
  | [d1, d2, d3] => { results := [.lit (.bool true)], args := [d1, d2, d3] }
  | _ => none }
def placeAloneRow : OpenClaim := { program := "ytjjcoiicikaaiaagreat", sum := "c44bc2ac8780b4a4e576f8da427da8b35dd18b67fbe85fe18632860ce3dcab02", func := "ganglion/ganglionlaw07.PlaceAlone", spec := "placeAlone", unfollowed := true, recurses := true, plainKeys := false, apart := false }
def PlaceAloneSaid : Prop := placeAloneRow.holds Tryz.pinned (OpenSpec.ofChange placeAloneSpec)

/-- ITS FALSE NEIGHBOUR: 'it returns false'. Refute it at one input. -/
def placeAloneWrong : ChangeSpec := { name := "placeAlone", fn := fun _ => fun
  | [d1, d2, d3] => { results := [.lit (.bool false)], args := [d1, d2, d3] }
  | _ => none }
def PlaceAloneWrongFalsely : Prop := placeAloneRow.holds Tryz.pinned (OpenSpec.ofChange placeAloneWrong)

/-- 'ganglionlaw07.PlaceBound': WHATEVER THE INPUT: true; the input reads as it did. -/
def placeBoundSpec : ChangeSpec := { name := "placeBound", fn := fun _ => fun
  | [d1, d2, d3] => { results := [.lit (.bool true)], args := [d1, d2, d3] }
  | _ => none }
def placeBoundRow : OpenClaim := { program := "ytjjcoiicikaaiaagreat", sum := "c44bc2ac8780b4a4e576f8da427da8b35dd18b67fbe85fe18632860ce3dcab02", func := "ganglion/ganglionlaw07.PlaceBound", spec := "placeBound", unfollowed := true, recurses := true, plainKeys := false, apart := false }
def PlaceBoundSaid : Prop := placeBoundRow.holds Tryz.pinned (OpenSpec.ofChange placeBoundSpec)

/-- ITS FALSE NEIGHBOUR: 'it returns false'. Refute it at one input. -/
def placeBoundWrong : ChangeSpec := { name := "placeBound", fn := fun _ => fun
  | [d1, d2, d3] => { results := [.lit (.bool false)], args := [d1, d2, d3] }
  | _ => none }
def PlaceBoundWrongFalsely : Prop := placeBoundRow.holds Tryz.pinned (OpenSpec.ofChange placeBoundWrong)

/-- 'ganglionlaw07.PlaceKnown': WHATEVER THE INPUT: true; the input reads as it did. -/
def placeKnownSpec : ChangeSpec := { name := "placeKnown", fn := fun _ => fun
  | [] => { results := [.lit (.bool true)], args := [] }
  | _ => none }
def placeKnownRow : OpenClaim := { program := "ytjjcoiicikaaiaagreat", sum := "c44bc2ac8780b4a4e576f8da427da8b35dd18b67fbe85fe18632860ce3dcab02", func := "ganglion/ganglionlaw07.PlaceKnown", spec := "placeKnown", unfollowed := true, recurses := true, plainKeys := false, apart := false }
def PlaceKnownSaid : Prop := placeKnownRow.holds Tryz.pinned (OpenSpec.ofChange placeKnownSpec)

/-- ITS FALSE NEIGHBOUR: 'it returns false'. Refute it at one input. -/
def placeKnownWrong : ChangeSpec := { name := "placeKnown", fn := fun _ => fun
  | [] => { results := [.lit (.bool false)], args := [] }
  | _ => none }
def PlaceKnownWrongFalsely : Prop := placeKnownRow.holds Tryz.pinned (OpenSpec.ofChange placeKnownWrong)

/-- 'ganglionlaw07.PlaceWays': WHATEVER THE INPUT: true; the input reads as it did. -/
def placeWaysSpec : ChangeSpec := { name := "placeWays", fn := fun _ => fun
  | [d1, d2, d3] => { results := [.lit (.bool true)], args := [d1, d2, d3] }
  | _ => none }
def placeWaysRow : OpenClaim := { program := "ytjjcoiicikaaiaagreat", sum := "c44bc2ac8780b4a4e576f8da427da8b35dd18b67fbe85fe18632860ce3dcab02", func := "ganglion/ganglionlaw07.PlaceWays", spec := "placeWays", unfollowed := true, recurses := true, plainKeys := false, apart := false }
def PlaceWaysSaid : Prop := placeWaysRow.holds Tryz.pinned (OpenSpec.ofChange placeWaysSpec)

/-- ITS FALSE NEIGHBOUR: 'it returns false'. Refute it at one input. -/
def placeWaysWrong : ChangeSpec := { name := "placeWays", fn := fun _ => fun
  | [d1, d2, d3] => { results := [.lit (.bool false)], args := [d1, d2, d3] }
  | _ => none }
def PlaceWaysWrongFalsely : Prop := placeWaysRow.holds Tryz.pinned (OpenSpec.ofChange placeWaysWrong)

/- THE SECOND FORM. 'bulk': how many values and letters a reading holds, each counted each time it is reached (what is shared counts as often as it is met; a slice's spare places count too). A statement '..UptoSaid' is the law's where the arguments, and the package variables that the reading takes, are together of bulk at most 1048576: NARROWER than '..Said'. Prove '..Said' where nothing that the law and all that it calls make is longer than what came in: it says more and counts as full. Else prove '..UptoSaid'. A law counts once. -/
mutual
def uptoBulk {H : Type} : DataW H → Nat
  | .lit (.string bytes) => bytes.length + 1
  | .lit _ => 1
  | .nil => 1
  | .ptr d => uptoBulk d + 1
  | .slice elems spare => uptoBulkAll elems + uptoBulkAll spare + 1
  | .agg parts => uptoBulkAll parts + 1
  | .iface _ d => uptoBulk d + 1
  | .map entries => uptoBulkEntries entries + 1
  | .held _ => 1
def uptoBulkAll {H : Type} : List (DataW H) → Nat
  | [] => 0
  | d :: r => uptoBulk d + uptoBulkAll r
def uptoBulkEntries {H : Type} : List (Lit × DataW H) → Nat
  | [] => 0
  | x :: r => uptoBulkEntry x + uptoBulkEntries r
def uptoBulkEntry {H : Type} : Lit × DataW H → Nat
  | (.string bytes, d) => bytes.length + uptoBulk d + 1
  | (_, d) => uptoBulk d + 1
 end
def uptoSmall : (H : Type) → List (DataW H) → Bool := fun _ ds => decide (uptoBulkAll ds ≤ 1048576)
def OpenSpec.upto (s : _root_.Go.ChangeSpec) : _root_.Go.OpenSpec := { _root_.Go.OpenSpec.ofChange s with cond := some uptoSmall }

/-- 'ganglionlaw07.PlaceChips', WHERE WHAT IT READS IS OF BULK AT MOST 1048576: true; the input reads as it did. -/
def placeChipsUptoRow : OpenClaim := { program := "ytjjcoiicikaaiaagreat", sum := "c44bc2ac8780b4a4e576f8da427da8b35dd18b67fbe85fe18632860ce3dcab02", func := "ganglion/ganglionlaw07.PlaceChips", spec := "placeChips", unfollowed := true, recurses := true, plainKeys := false, apart := false, narrowed := true }
def PlaceChipsUptoSaid : Prop := placeChipsUptoRow.holds Tryz.pinned (OpenSpec.upto placeChipsSpec)

/-- 'ganglionlaw07.PlaceQuants', WHERE WHAT IT READS IS OF BULK AT MOST 1048576: true; the input reads as it did. -/
def placeQuantsUptoRow : OpenClaim := { program := "ytjjcoiicikaaiaagreat", sum := "c44bc2ac8780b4a4e576f8da427da8b35dd18b67fbe85fe18632860ce3dcab02", func := "ganglion/ganglionlaw07.PlaceQuants", spec := "placeQuants", unfollowed := true, recurses := true, plainKeys := false, apart := false, narrowed := true }
def PlaceQuantsUptoSaid : Prop := placeQuantsUptoRow.holds Tryz.pinned (OpenSpec.upto placeQuantsSpec)

/-- 'ganglionlaw07.PlacePlaces', WHERE WHAT IT READS IS OF BULK AT MOST 1048576: true; the input reads as it did. -/
def placePlacesUptoRow : OpenClaim := { program := "ytjjcoiicikaaiaagreat", sum := "c44bc2ac8780b4a4e576f8da427da8b35dd18b67fbe85fe18632860ce3dcab02", func := "ganglion/ganglionlaw07.PlacePlaces", spec := "placePlaces", unfollowed := true, recurses := true, plainKeys := false, apart := false, narrowed := true }
def PlacePlacesUptoSaid : Prop := placePlacesUptoRow.holds Tryz.pinned (OpenSpec.upto placePlacesSpec)

/-- 'ganglionlaw07.PlaceMaps', WHERE WHAT IT READS IS OF BULK AT MOST 1048576: true; the input reads as it did. -/
def placeMapsUptoRow : OpenClaim := { program := "ytjjcoiicikaaiaagreat", sum := "c44bc2ac8780b4a4e576f8da427da8b35dd18b67fbe85fe18632860ce3dcab02", func := "ganglion/ganglionlaw07.PlaceMaps", spec := "placeMaps", unfollowed := true, recurses := true, plainKeys := false, apart := false, narrowed := true }
def PlaceMapsUptoSaid : Prop := placeMapsUptoRow.holds Tryz.pinned (OpenSpec.upto placeMapsSpec)

/-- 'ganglionlaw07.PlaceErrors', WHERE WHAT IT READS IS OF BULK AT MOST 1048576: true; the input reads as it did. -/
def placeErrorsUptoRow : OpenClaim := { program := "ytjjcoiicikaaiaagreat", sum := "c44bc2ac8780b4a4e576f8da427da8b35dd18b67fbe85fe18632860ce3dcab02", func := "ganglion/ganglionlaw07.PlaceErrors", spec := "placeErrors", unfollowed := true, recurses := true, plainKeys := false, apart := false, narrowed := true }
def PlaceErrorsUptoSaid : Prop := placeErrorsUptoRow.holds Tryz.pinned (OpenSpec.upto placeErrorsSpec)

/-- 'ganglionlaw07.PlaceRows', WHERE WHAT IT READS IS OF BULK AT MOST 1048576: true; the input reads as it did. -/
def placeRowsUptoRow : OpenClaim := { program := "ytjjcoiicikaaiaagreat", sum := "c44bc2ac8780b4a4e576f8da427da8b35dd18b67fbe85fe18632860ce3dcab02", func := "ganglion/ganglionlaw07.PlaceRows", spec := "placeRows", unfollowed := true, recurses := true, plainKeys := false, apart := false, narrowed := true }
def PlaceRowsUptoSaid : Prop := placeRowsUptoRow.holds Tryz.pinned (OpenSpec.upto placeRowsSpec)

/-- 'ganglionlaw07.PlaceCosts', WHERE WHAT IT READS IS OF BULK AT MOST 1048576: true; the input reads as it did. -/
def placeCostsUptoRow : OpenClaim := { program := "ytjjcoiicikaaiaagreat", sum := "c44bc2ac8780b4a4e576f8da427da8b35dd18b67fbe85fe18632860ce3dcab02", func := "ganglion/ganglionlaw07.PlaceCosts", spec := "placeCosts", unfollowed := true, recurses := true, plainKeys := false, apart := false, narrowed := true }
def PlaceCostsUptoSaid : Prop := placeCostsUptoRow.holds Tryz.pinned (OpenSpec.upto placeCostsSpec)

/-- 'ganglionlaw07.PlaceImproves', WHERE WHAT IT READS IS OF BULK AT MOST 1048576: true; the input reads as it did. -/
def placeImprovesUptoRow : OpenClaim := { program := "ytjjcoiicikaaiaagreat", sum := "c44bc2ac8780b4a4e576f8da427da8b35dd18b67fbe85fe18632860ce3dcab02", func := "ganglion/ganglionlaw07.PlaceImproves", spec := "placeImproves", unfollowed := true, recurses := true, plainKeys := false, apart := false, narrowed := true }
def PlaceImprovesUptoSaid : Prop := placeImprovesUptoRow.holds Tryz.pinned (OpenSpec.upto placeImprovesSpec)

/-- 'ganglionlaw07.PlaceAlone', WHERE WHAT IT READS IS OF BULK AT MOST 1048576: true; the input reads as it did. -/
def placeAloneUptoRow : OpenClaim := { program := "ytjjcoiicikaaiaagreat", sum := "c44bc2ac8780b4a4e576f8da427da8b35dd18b67fbe85fe18632860ce3dcab02", func := "ganglion/ganglionlaw07.PlaceAlone", spec := "placeAlone", unfollowed := true, recurses := true, plainKeys := false, apart := false, narrowed := true }
def PlaceAloneUptoSaid : Prop := placeAloneUptoRow.holds Tryz.pinned (OpenSpec.upto placeAloneSpec)

/-- 'ganglionlaw07.PlaceBound', WHERE WHAT IT READS IS OF BULK AT MOST 1048576: true; the input reads as it did. -/
def placeBoundUptoRow : OpenClaim := { program := "ytjjcoiicikaaiaagreat", sum := "c44bc2ac8780b4a4e576f8da427da8b35dd18b67fbe85fe18632860ce3dcab02", func := "ganglion/ganglionlaw07.PlaceBound", spec := "placeBound", unfollowed := true, recurses := true, plainKeys := false, apart := false, narrowed := true }
def PlaceBoundUptoSaid : Prop := placeBoundUptoRow.holds Tryz.pinned (OpenSpec.upto placeBoundSpec)

/-- 'ganglionlaw07.PlaceKnown', WHERE WHAT IT READS IS OF BULK AT MOST 1048576: true; the input reads as it did. -/
def placeKnownUptoRow : OpenClaim := { program := "ytjjcoiicikaaiaagreat", sum := "c44bc2ac8780b4a4e576f8da427da8b35dd18b67fbe85fe18632860ce3dcab02", func := "ganglion/ganglionlaw07.PlaceKnown", spec := "placeKnown", unfollowed := true, recurses := true, plainKeys := false, apart := false, narrowed := true }
def PlaceKnownUptoSaid : Prop := placeKnownUptoRow.holds Tryz.pinned (OpenSpec.upto placeKnownSpec)

/-- 'ganglionlaw07.PlaceWays', WHERE WHAT IT READS IS OF BULK AT MOST 1048576: true; the input reads as it did. -/
def placeWaysUptoRow : OpenClaim := { program := "ytjjcoiicikaaiaagreat", sum := "c44bc2ac8780b4a4e576f8da427da8b35dd18b67fbe85fe18632860ce3dcab02", func := "ganglion/ganglionlaw07.PlaceWays", spec := "placeWays", unfollowed := true, recurses := true, plainKeys := false, apart := false, narrowed := true }
def PlaceWaysUptoSaid : Prop := placeWaysUptoRow.holds Tryz.pinned (OpenSpec.upto placeWaysSpec)

end Rows
end Go.Proofs.YtjjcoiicikaaiaaGreat
