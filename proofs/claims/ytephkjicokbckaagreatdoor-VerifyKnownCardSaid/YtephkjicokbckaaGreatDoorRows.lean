/-
  NARROWER THAN 'FOR EVERY INPUT', by the rows' own cells (each row's printed sentence says how): VerifyReaches: laid · VerifyBounds: laid · VerifyCertains: laid · VerifyRuns: laid · VerifyFound: laid · VerifySound: laid · VerifyExact: laid · VerifyClaims: laid · VerifyCertain: laid · VerifyRobusts: laid · VerifyKnown: laid · VerifyDisturbed: laid.
  DERIVED. THE GIVEN ROWS OF THIS SEAT. 12 by the template 'for every input the law returns true; each argument reads behind the call as it read before'; 0 by the template 'total and deterministic' (their statements: YtephkjicokbckaaGreatDoorTotals.lean).
  GIVEN WITH THE SEED: the statements are not yours to turn. If you find one false, say at which input.
  Laid BY PROGRAM, IN A SANDBOX (cutbox-rows.mjs): the forced cells as the released guide's own fill.sh prints them over the translation aa722ab8ad4e0416… (all of the seat's roots in one cut). By AI agents, Wed Nov 11 2026. No macro, syntax, notation, axiom, sorry.
-/
import Derived.Test.YtephkjicokbckaaGreatDoorChecked
import GoSem.Claim
import GoSem.ClaimJoined
import GoSem.ClaimMapViews
import Derived.JoinedTies
import Derived.KernelRfl
namespace Go.Proofs.YtephkjicokbckaaGreatDoor
/- THE CELL 'sum', in the pinned program and in every row, IS THE sha256 OF THE DUMP (.gsa) THAT YtephkjicokbckaaGreatDoorProg.lean LOADS. Nothing in Lean hashes anything: it is a label: what it is worth is what the hold of that sum in a sandbox is worth. -/
noncomputable def Tryz.pinned : Pinned := { name := "ytephkjicokbckaagreatdoor", sum := "aa722ab8ad4e04167d68e713d60ea47a2618a6a11425920a7ffd09c59e4c4cf8", checked := Tryz.checked }
namespace Rows
def none {H : Type} : Left H := { results := [], args := [] }

/- WHAT THE LISTED PACKAGE-LEVEL VARIABLES READ AS WHEN THE CALL BEGINS. Each datum BY PROGRAM (the guide's laid-datum.mjs) off the statement by which the dump's own 'gosem.cut.vars' lays the variable. In a bare row this is a premise. The card (YtephkjicokbckaaGreatDoorCards.lean) ties it to the program's text. -/
def laid_math_bits_deBruijn32tab {H : Type} : DataW H := .agg [.lit (.int .u8 0), .lit (.int .u8 1), .lit (.int .u8 28), .lit (.int .u8 2), .lit (.int .u8 29), .lit (.int .u8 14), .lit (.int .u8 24), .lit (.int .u8 3), .lit (.int .u8 30), .lit (.int .u8 22), .lit (.int .u8 20), .lit (.int .u8 15), .lit (.int .u8 25), .lit (.int .u8 17), .lit (.int .u8 4), .lit (.int .u8 8), .lit (.int .u8 31), .lit (.int .u8 27), .lit (.int .u8 13), .lit (.int .u8 23), .lit (.int .u8 21), .lit (.int .u8 19), .lit (.int .u8 16), .lit (.int .u8 7), .lit (.int .u8 26), .lit (.int .u8 12), .lit (.int .u8 18), .lit (.int .u8 6), .lit (.int .u8 11), .lit (.int .u8 5), .lit (.int .u8 10), .lit (.int .u8 9)]
def laid_math_bits_deBruijn64tab {H : Type} : DataW H := .agg [.lit (.int .u8 0), .lit (.int .u8 1), .lit (.int .u8 56), .lit (.int .u8 2), .lit (.int .u8 57), .lit (.int .u8 49), .lit (.int .u8 28), .lit (.int .u8 3), .lit (.int .u8 61), .lit (.int .u8 58), .lit (.int .u8 42), .lit (.int .u8 50), .lit (.int .u8 38), .lit (.int .u8 29), .lit (.int .u8 17), .lit (.int .u8 4), .lit (.int .u8 62), .lit (.int .u8 47), .lit (.int .u8 59), .lit (.int .u8 36), .lit (.int .u8 45), .lit (.int .u8 43), .lit (.int .u8 51), .lit (.int .u8 22), .lit (.int .u8 53), .lit (.int .u8 39), .lit (.int .u8 33), .lit (.int .u8 30), .lit (.int .u8 24), .lit (.int .u8 18), .lit (.int .u8 12), .lit (.int .u8 5), .lit (.int .u8 63), .lit (.int .u8 55), .lit (.int .u8 48), .lit (.int .u8 27), .lit (.int .u8 60), .lit (.int .u8 41), .lit (.int .u8 37), .lit (.int .u8 16), .lit (.int .u8 46), .lit (.int .u8 35), .lit (.int .u8 44), .lit (.int .u8 21), .lit (.int .u8 52), .lit (.int .u8 32), .lit (.int .u8 23), .lit (.int .u8 11), .lit (.int .u8 54), .lit (.int .u8 26), .lit (.int .u8 40), .lit (.int .u8 15), .lit (.int .u8 34), .lit (.int .u8 20), .lit (.int .u8 31), .lit (.int .u8 10), .lit (.int .u8 25), .lit (.int .u8 14), .lit (.int .u8 19), .lit (.int .u8 9), .lit (.int .u8 13), .lit (.int .u8 8), .lit (.int .u8 7), .lit (.int .u8 6)]
def laid_internal_strconv_uint64pow10 {H : Type} : DataW H := .agg [.lit (.int .u64 1), .lit (.int .u64 10), .lit (.int .u64 100), .lit (.int .u64 1000), .lit (.int .u64 10000), .lit (.int .u64 100000), .lit (.int .u64 1000000), .lit (.int .u64 10000000), .lit (.int .u64 100000000), .lit (.int .u64 1000000000), .lit (.int .u64 10000000000), .lit (.int .u64 100000000000), .lit (.int .u64 1000000000000), .lit (.int .u64 10000000000000), .lit (.int .u64 100000000000000), .lit (.int .u64 1000000000000000), .lit (.int .u64 10000000000000000), .lit (.int .u64 100000000000000000), .lit (.int .u64 1000000000000000000), .lit (.int .u64 10000000000000000000)]

/-- 'ganglionlaw11.VerifyReaches': WHATEVER THE INPUT: true; the input reads as it did. -/
def verifyReachesSpec : ChangeSpec := { name := "verifyReaches", fn := fun _ => fun
  | [d1, d2, d3, d4] => { results := [.lit (.bool true)], args := [d1, d2, d3, d4] }
  | _ => none }
def verifyReachesRow : OpenClaim := { program := "ytephkjicokbckaagreatdoor", sum := "aa722ab8ad4e04167d68e713d60ea47a2618a6a11425920a7ffd09c59e4c4cf8", func := "ganglion/ganglionlaw11.VerifyReaches", spec := "verifyReaches", unfollowed := true, recurses := true, named := ["internal/strconv.uint64pow10", "math/bits.deBruijn32tab", "math/bits.deBruijn64tab"], plainKeys := false, apart := false, laid := [("math/bits.deBruijn32tab", laid_math_bits_deBruijn32tab), ("math/bits.deBruijn64tab", laid_math_bits_deBruijn64tab), ("internal/strconv.uint64pow10", laid_internal_strconv_uint64pow10)] }
def VerifyReachesSaid : Prop := verifyReachesRow.holds Tryz.pinned (OpenSpec.ofChange verifyReachesSpec)

/-- ITS FALSE NEIGHBOUR: 'it returns false'. Refute it at one input. -/
def verifyReachesWrong : ChangeSpec := { name := "verifyReaches", fn := fun _ => fun
  | [d1, d2, d3, d4] => { results := [.lit (.bool false)], args := [d1, d2, d3, d4] }
  | _ => none }
def VerifyReachesWrongFalsely : Prop := verifyReachesRow.holds Tryz.pinned (OpenSpec.ofChange verifyReachesWrong)

/-- 'ganglionlaw11.VerifyBounds': WHATEVER THE INPUT: true; the input reads as it did. -/
def verifyBoundsSpec : ChangeSpec := { name := "verifyBounds", fn := fun _ => fun
  | [d1, d2, d3, d4] => { results := [.lit (.bool true)], args := [d1, d2, d3, d4] }
  | _ => none }
def verifyBoundsRow : OpenClaim := { program := "ytephkjicokbckaagreatdoor", sum := "aa722ab8ad4e04167d68e713d60ea47a2618a6a11425920a7ffd09c59e4c4cf8", func := "ganglion/ganglionlaw11.VerifyBounds", spec := "verifyBounds", unfollowed := true, recurses := true, named := ["internal/strconv.uint64pow10", "math/bits.deBruijn32tab", "math/bits.deBruijn64tab"], plainKeys := false, apart := false, laid := [("math/bits.deBruijn32tab", laid_math_bits_deBruijn32tab), ("math/bits.deBruijn64tab", laid_math_bits_deBruijn64tab), ("internal/strconv.uint64pow10", laid_internal_strconv_uint64pow10)] }
def VerifyBoundsSaid : Prop := verifyBoundsRow.holds Tryz.pinned (OpenSpec.ofChange verifyBoundsSpec)

/-- ITS FALSE NEIGHBOUR: 'it returns false'. Refute it at one input. -/
def verifyBoundsWrong : ChangeSpec := { name := "verifyBounds", fn := fun _ => fun
  | [d1, d2, d3, d4] => { results := [.lit (.bool false)], args := [d1, d2, d3, d4] }
  | _ => none }
def VerifyBoundsWrongFalsely : Prop := verifyBoundsRow.holds Tryz.pinned (OpenSpec.ofChange verifyBoundsWrong)

/-- 'ganglionlaw11.VerifyCertains': WHATEVER THE INPUT: true; the input reads as it did. -/
def verifyCertainsSpec : ChangeSpec := { name := "verifyCertains", fn := fun _ => fun
  | [d1, d2, d3, d4, d5] => { results := [.lit (.bool true)], args := [d1, d2, d3, d4, d5] }
  | _ => none }
def verifyCertainsRow : OpenClaim := { program := "ytephkjicokbckaagreatdoor", sum := "aa722ab8ad4e04167d68e713d60ea47a2618a6a11425920a7ffd09c59e4c4cf8", func := "ganglion/ganglionlaw11.VerifyCertains", spec := "verifyCertains", unfollowed := true, recurses := true, named := ["internal/strconv.uint64pow10", "math/bits.deBruijn32tab", "math/bits.deBruijn64tab"], plainKeys := false, apart := false, laid := [("math/bits.deBruijn32tab", laid_math_bits_deBruijn32tab), ("math/bits.deBruijn64tab", laid_math_bits_deBruijn64tab), ("internal/strconv.uint64pow10", laid_internal_strconv_uint64pow10)] }
def VerifyCertainsSaid : Prop := verifyCertainsRow.holds Tryz.pinned (OpenSpec.ofChange verifyCertainsSpec)

/-- ITS FALSE NEIGHBOUR: 'it returns false'. Refute it at one input. -/
def verifyCertainsWrong : ChangeSpec := { name := "verifyCertains", fn := fun _ => fun
  | [d1, d2, d3, d4, d5] => { results := [.lit (.bool false)], args := [d1, d2, d3, d4, d5] }
  | _ => none }
def VerifyCertainsWrongFalsely : Prop := verifyCertainsRow.holds Tryz.pinned (OpenSpec.ofChange verifyCertainsWrong)

/-- 'ganglionlaw11.VerifyRuns': WHATEVER THE INPUT: true; the input reads as it did. -/
def verifyRunsSpec : ChangeSpec := { name := "verifyRuns", fn := fun _ => fun
  | [d1, d2, d3] => { results := [.lit (.bool true)], args := [d1, d2, d3] }
  | _ => none }
def verifyRunsRow : OpenClaim := { program := "ytephkjicokbckaagreatdoor", sum := "aa722ab8ad4e04167d68e713d60ea47a2618a6a11425920a7ffd09c59e4c4cf8", func := "ganglion/ganglionlaw11.VerifyRuns", spec := "verifyRuns", unfollowed := true, recurses := true, named := ["internal/strconv.uint64pow10", "math/bits.deBruijn32tab", "math/bits.deBruijn64tab"], plainKeys := false, apart := false, laid := [("math/bits.deBruijn32tab", laid_math_bits_deBruijn32tab), ("math/bits.deBruijn64tab", laid_math_bits_deBruijn64tab), ("internal/strconv.uint64pow10", laid_internal_strconv_uint64pow10)] }
def VerifyRunsSaid : Prop := verifyRunsRow.holds Tryz.pinned (OpenSpec.ofChange verifyRunsSpec)

/-- ITS FALSE NEIGHBOUR: 'it returns false'. Refute it at one input. -/
def verifyRunsWrong : ChangeSpec := { name := "verifyRuns", fn := fun _ => fun
  | [d1, d2, d3] => { results := [.lit (.bool false)], args := [d1, d2, d3] }
  | _ => none }
def VerifyRunsWrongFalsely : Prop := verifyRunsRow.holds Tryz.pinned (OpenSpec.ofChange verifyRunsWrong)

/-- 'ganglionlaw11.VerifyFound': WHATEVER THE INPUT: true; the input reads as it did. -/
def verifyFoundSpec : ChangeSpec := { name := "verifyFound", fn := fun _ => fun
  | [d1, d2, d3, d4, d5] => { results := [.lit (.bool true)], args := [d1, d2, d3, d4, d5] }
  | _ => none }
def verifyFoundRow : OpenClaim := { program := "ytephkjicokbckaagreatdoor", sum := "aa722ab8ad4e04167d68e713d60ea47a2618a6a11425920a7ffd09c59e4c4cf8", func := "ganglion/ganglionlaw11.VerifyFound", spec := "verifyFound", unfollowed := true, recurses := true, named := ["internal/strconv.uint64pow10", "math/bits.deBruijn32tab", "math/bits.deBruijn64tab"], plainKeys := false, apart := false, laid := [("math/bits.deBruijn32tab", laid_math_bits_deBruijn32tab), ("math/bits.deBruijn64tab", laid_math_bits_deBruijn64tab), ("internal/strconv.uint64pow10", laid_internal_strconv_uint64pow10)] }
def VerifyFoundSaid : Prop := verifyFoundRow.holds Tryz.pinned (OpenSpec.ofChange verifyFoundSpec)

/-- ITS FALSE NEIGHBOUR: 'it returns false'. Refute it at one input. -/
def verifyFoundWrong : ChangeSpec := { name := "verifyFound", fn := fun _ => fun
  | [d1, d2, d3, d4, d5] => { results := [.lit (.bool false)], args := [d1, d2, d3, d4, d5] }
  | _ => none }
def VerifyFoundWrongFalsely : Prop := verifyFoundRow.holds Tryz.pinned (OpenSpec.ofChange verifyFoundWrong)

/-- 'ganglionlaw11.VerifySound': WHATEVER THE INPUT: true; the input reads as it did. -/
def verifySoundSpec : ChangeSpec := { name := "verifySound", fn := fun _ => fun
  | [d1, d2, d3, d4, d5] => { results := [.lit (.bool true)], args := [d1, d2, d3, d4, d5] }
  | _ => none }
def verifySoundRow : OpenClaim := { program := "ytephkjicokbckaagreatdoor", sum := "aa722ab8ad4e04167d68e713d60ea47a2618a6a11425920a7ffd09c59e4c4cf8", func := "ganglion/ganglionlaw11.VerifySound", spec := "verifySound", unfollowed := true, recurses := true, named := ["internal/strconv.uint64pow10", "math/bits.deBruijn32tab", "math/bits.deBruijn64tab"], plainKeys := false, apart := false, laid := [("math/bits.deBruijn32tab", laid_math_bits_deBruijn32tab), ("math/bits.deBruijn64tab", laid_math_bits_deBruijn64tab), ("internal/strconv.uint64pow10", laid_internal_strconv_uint64pow10)] }
def VerifySoundSaid : Prop := verifySoundRow.holds Tryz.pinned (OpenSpec.ofChange verifySoundSpec)

/-- ITS FALSE NEIGHBOUR: 'it returns false'. Refute it at one input. -/
def verifySoundWrong : ChangeSpec := { name := "verifySound", fn := fun _ => fun
  | [d1, d2, d3, d4, d5] => { results := [.lit (.bool false)], args := [d1, d2, d3, d4, d5] }
  | _ => none }
def VerifySoundWrongFalsely : Prop := verifySoundRow.holds Tryz.pinned (OpenSpec.ofChange verifySoundWrong)

/-- 'ganglionlaw11.VerifyExact': WHATEVER THE INPUT: true; the input reads as it did. -/
def verifyExactSpec : ChangeSpec := { name := "verifyExact", fn := fun _ => fun
  | [d1, d2, d3, d4, d5] => { results := [.lit (.bool true)], args := [d1, d2, d3, d4, d5] }
  | _ => none }
def verifyExactRow : OpenClaim := { program := "ytephkjicokbckaagreatdoor", sum := "aa722ab8ad4e04167d68e713d60ea47a2618a6a11425920a7ffd09c59e4c4cf8", func := "ganglion/ganglionlaw11.VerifyExact", spec := "verifyExact", unfollowed := true, recurses := true, named := ["internal/strconv.uint64pow10", "math/bits.deBruijn32tab", "math/bits.deBruijn64tab"], plainKeys := false, apart := false, laid := [("math/bits.deBruijn32tab", laid_math_bits_deBruijn32tab), ("math/bits.deBruijn64tab", laid_math_bits_deBruijn64tab), ("internal/strconv.uint64pow10", laid_internal_strconv_uint64pow10)] }
def VerifyExactSaid : Prop := verifyExactRow.holds Tryz.pinned (OpenSpec.ofChange verifyExactSpec)

/-- ITS FALSE NEIGHBOUR: 'it returns false'. Refute it at one input. -/
def verifyExactWrong : ChangeSpec := { name := "verifyExact", fn := fun _ => fun
  | [d1, d2, d3, d4, d5] => { results := [.lit (.bool false)], args := [d1, d2, d3, d4, d5] }
  | _ => none }
def VerifyExactWrongFalsely : Prop := verifyExactRow.holds Tryz.pinned (OpenSpec.ofChange verifyExactWrong)

/-- 'ganglionlaw11.VerifyClaims': WHATEVER THE INPUT: true; the input reads as it did. -/
def verifyClaimsSpec : ChangeSpec := { name := "verifyClaims", fn := fun _ => fun
  | [d1, d2, d3] => { results := [.lit (.bool true)], args := [d1, d2, d3] }
  | _ => none }
def verifyClaimsRow : OpenClaim := { program := "ytephkjicokbckaagreatdoor", sum := "aa722ab8ad4e04167d68e713d60ea47a2618a6a11425920a7ffd09c59e4c4cf8", func := "ganglion/ganglionlaw11.VerifyClaims", spec := "verifyClaims", unfollowed := true, recurses := true, named := ["internal/strconv.uint64pow10", "math/bits.deBruijn32tab", "math/bits.deBruijn64tab"], plainKeys := false, apart := false, laid := [("math/bits.deBruijn32tab", laid_math_bits_deBruijn32tab), ("math/bits.deBruijn64tab", laid_math_bits_deBruijn64tab), ("internal/strconv.uint64pow10", laid_internal_strconv_uint64pow10)] }
def VerifyClaimsSaid : Prop := verifyClaimsRow.holds Tryz.pinned (OpenSpec.ofChange verifyClaimsSpec)

/-- ITS FALSE NEIGHBOUR: 'it returns false'. Refute it at one input. -/
def verifyClaimsWrong : ChangeSpec := { name := "verifyClaims", fn := fun _ => fun
  | [d1, d2, d3] => { results := [.lit (.bool false)], args := [d1, d2, d3] }
  | _ => none }
def VerifyClaimsWrongFalsely : Prop := verifyClaimsRow.holds Tryz.pinned (OpenSpec.ofChange verifyClaimsWrong)

/-- 'ganglionlaw11.VerifyCertain': WHATEVER THE INPUT: true; the input reads as it did. -/
def verifyCertainSpec : ChangeSpec := { name := "verifyCertain", fn := fun _ => fun
  | [d1, d2, d3, d4, d5, d6] => { results := [.lit (.bool true)], args := [d1, d2, d3, d4, d5, d6] }
  | _ => none }
def verifyCertainRow : OpenClaim := { program := "ytephkjicokbckaagreatdoor", sum := "aa722ab8ad4e04167d68e713d60ea47a2618a6a11425920a7ffd09c59e4c4cf8", func := "ganglion/ganglionlaw11.VerifyCertain", spec := "verifyCertain", unfollowed := true, recurses := true, named := ["internal/strconv.uint64pow10", "math/bits.deBruijn32tab", "math/bits.deBruijn64tab"], plainKeys := false, apart := false, laid := [("math/bits.deBruijn32tab", laid_math_bits_deBruijn32tab), ("math/bits.deBruijn64tab", laid_math_bits_deBruijn64tab), ("internal/strconv.uint64pow10", laid_internal_strconv_uint64pow10)] }
def VerifyCertainSaid : Prop := verifyCertainRow.holds Tryz.pinned (OpenSpec.ofChange verifyCertainSpec)

/-- ITS FALSE NEIGHBOUR: 'it returns false'. Refute it at one input. -/
def verifyCertainWrong : ChangeSpec := { name := "verifyCertain", fn := fun _ => fun
  | [d1, d2, d3, d4, d5, d6] => { results := [.lit (.bool false)], args := [d1, d2, d3, d4, d5, d6] }
  | _ => none }
def VerifyCertainWrongFalsely : Prop := verifyCertainRow.holds Tryz.pinned (OpenSpec.ofChange verifyCertainWrong)

/-- 'ganglionlaw11.VerifyRobusts': WHATEVER THE INPUT: true; the input reads as it did. -/
def verifyRobustsSpec : ChangeSpec := { name := "verifyRobusts", fn := fun _ => fun
  | [d] => { results := [.lit (.bool true)], args := [d] }
  | _ => none }
def verifyRobustsRow : OpenClaim := { program := "ytephkjicokbckaagreatdoor", sum := "aa722ab8ad4e04167d68e713d60ea47a2618a6a11425920a7ffd09c59e4c4cf8", func := "ganglion/ganglionlaw11.VerifyRobusts", spec := "verifyRobusts", unfollowed := true, recurses := true, named := ["internal/strconv.uint64pow10", "math/bits.deBruijn32tab", "math/bits.deBruijn64tab"], plainKeys := false, apart := false, laid := [("math/bits.deBruijn32tab", laid_math_bits_deBruijn32tab), ("math/bits.deBruijn64tab", laid_math_bits_deBruijn64tab), ("internal/strconv.uint64pow10", laid_internal_strconv_uint64pow10)] }
def VerifyRobustsSaid : Prop := verifyRobustsRow.holds Tryz.pinned (OpenSpec.ofChange verifyRobustsSpec)

/-- ITS FALSE NEIGHBOUR: 'it returns false'. Refute it at one input. -/
def verifyRobustsWrong : ChangeSpec := { name := "verifyRobusts", fn := fun _ => fun
  | [d] => { results := [.lit (.bool false)], args := [d] }
  | _ => none }
def VerifyRobustsWrongFalsely : Prop := verifyRobustsRow.holds Tryz.pinned (OpenSpec.ofChange verifyRobustsWrong)

/-- 'ganglionlaw11.VerifyKnown': WHATEVER THE INPUT: true; the input reads as it did. -/
def verifyKnownSpec : ChangeSpec := { name := "verifyKnown", fn := fun _ => fun
  | [] => { results := [.lit (.bool true)], args := [] }
  | _ => none }
def verifyKnownRow : OpenClaim := { program := "ytephkjicokbckaagreatdoor", sum := "aa722ab8ad4e04167d68e713d60ea47a2618a6a11425920a7ffd09c59e4c4cf8", func := "ganglion/ganglionlaw11.VerifyKnown", spec := "verifyKnown", unfollowed := true, recurses := true, named := ["internal/strconv.uint64pow10", "math/bits.deBruijn32tab", "math/bits.deBruijn64tab"], plainKeys := false, apart := false, laid := [("math/bits.deBruijn32tab", laid_math_bits_deBruijn32tab), ("math/bits.deBruijn64tab", laid_math_bits_deBruijn64tab), ("internal/strconv.uint64pow10", laid_internal_strconv_uint64pow10)] }
def VerifyKnownSaid : Prop := verifyKnownRow.holds Tryz.pinned (OpenSpec.ofChange verifyKnownSpec)

/-- ITS FALSE NEIGHBOUR: 'it returns false'. Refute it at one input. -/
def verifyKnownWrong : ChangeSpec := { name := "verifyKnown", fn := fun _ => fun
  | [] => { results := [.lit (.bool false)], args := [] }
  | _ => none }
def VerifyKnownWrongFalsely : Prop := verifyKnownRow.holds Tryz.pinned (OpenSpec.ofChange verifyKnownWrong)

/-- 'ganglionlaw11.VerifyDisturbed': WHATEVER THE INPUT: true; the input reads as it did. -/
def verifyDisturbedSpec : ChangeSpec := { name := "verifyDisturbed", fn := fun _ => fun
  | [d1, d2, d3] => { results := [.lit (.bool true)], args := [d1, d2, d3] }
  | _ => none }
def verifyDisturbedRow : OpenClaim := { program := "ytephkjicokbckaagreatdoor", sum := "aa722ab8ad4e04167d68e713d60ea47a2618a6a11425920a7ffd09c59e4c4cf8", func := "ganglion/ganglionlaw11.VerifyDisturbed", spec := "verifyDisturbed", unfollowed := true, recurses := true, named := ["internal/strconv.uint64pow10", "math/bits.deBruijn32tab", "math/bits.deBruijn64tab"], plainKeys := false, apart := false, laid := [("math/bits.deBruijn32tab", laid_math_bits_deBruijn32tab), ("math/bits.deBruijn64tab", laid_math_bits_deBruijn64tab), ("internal/strconv.uint64pow10", laid_internal_strconv_uint64pow10)] }
def VerifyDisturbedSaid : Prop := verifyDisturbedRow.holds Tryz.pinned (OpenSpec.ofChange verifyDisturbedSpec)

/-- ITS FALSE NEIGHBOUR: 'it returns false'. Refute it at one input. -/
def verifyDisturbedWrong : ChangeSpec := { name := "verifyDisturbed", fn := fun _ => fun
  | [d1, d2, d3] => { results := [.lit (.bool false)], args := [d1, d2, d3] }
  | _ => none }
def VerifyDisturbedWrongFalsely : Prop := verifyDisturbedRow.holds Tryz.pinned (OpenSpec.ofChange verifyDisturbedWrong)

/- THE SECOND FORM. 'bulk': how many values and letters a reading holds, each counted each time it is reached (what is shared counts as often as it is met; a slice's spare places count too). A statement '..UptoSaid' is the law's where the arguments, and the package variables that the reading takes, are together of bulk at most 1048576: NARROWER than '..Said'. Prove '..Said' where nothing that the law and all that it calls make is longer than what came in: it says more and counts as full. Else prove '..UptoSaid'. A law counts once. -/
mutual
def uptoBulk {H : Type} : DataW H → Nat
  | .lit (.string bytes) => bytes.length + 1
  | .lit _ => 1
  | .nil => 1
  | .ptr d => uptoBulk d + 1
  | .slice elems spare => uptoBulkAll elems + uptoBulkAll spare + 1
  | .agg parts => uptoBulkAll parts + 1
  | .iface _ d => uptoBulk d + 1
  | .map entries => uptoBulkEntries entries + 1
  | .held _ => 1
def uptoBulkAll {H : Type} : List (DataW H) → Nat
  | [] => 0
  | d :: r => uptoBulk d + uptoBulkAll r
def uptoBulkEntries {H : Type} : List (Lit × DataW H) → Nat
  | [] => 0
  | x :: r => uptoBulkEntry x + uptoBulkEntries r
def uptoBulkEntry {H : Type} : Lit × DataW H → Nat
  | (.string bytes, d) => bytes.length + uptoBulk d + 1
  | (_, d) => uptoBulk d + 1
 end
def uptoSmall : (H : Type) → List (DataW H) → Bool := fun _ ds => decide (uptoBulkAll ds ≤ 1048576)
def OpenSpec.upto (s : _root_.Go.ChangeSpec) : _root_.Go.OpenSpec := { _root_.Go.OpenSpec.ofChange s with cond := some uptoSmall }

/-- 'ganglionlaw11.VerifyReaches', WHERE WHAT IT READS IS OF BULK AT MOST 1048576: true; the input reads as it did. -/
def verifyReachesUptoRow : OpenClaim := { program := "ytephkjicokbckaagreatdoor", sum := "aa722ab8ad4e04167d68e713d60ea47a2618a6a11425920a7ffd09c59e4c4cf8", func := "ganglion/ganglionlaw11.VerifyReaches", spec := "verifyReaches", unfollowed := true, recurses := true, named := ["internal/strconv.uint64pow10", "math/bits.deBruijn32tab", "math/bits.deBruijn64tab"], plainKeys := false, apart := false, laid := [("math/bits.deBruijn32tab", laid_math_bits_deBruijn32tab), ("math/bits.deBruijn64tab", laid_math_bits_deBruijn64tab), ("internal/strconv.uint64pow10", laid_internal_strconv_uint64pow10)], narrowed := true }
def VerifyReachesUptoSaid : Prop := verifyReachesUptoRow.holds Tryz.pinned (OpenSpec.upto verifyReachesSpec)

/-- 'ganglionlaw11.VerifyBounds', WHERE WHAT IT READS IS OF BULK AT MOST 1048576: true; the input reads as it did. -/
def verifyBoundsUptoRow : OpenClaim := { program := "ytephkjicokbckaagreatdoor", sum := "aa722ab8ad4e04167d68e713d60ea47a2618a6a11425920a7ffd09c59e4c4cf8", func := "ganglion/ganglionlaw11.VerifyBounds", spec := "verifyBounds", unfollowed := true, recurses := true, named := ["internal/strconv.uint64pow10", "math/bits.deBruijn32tab", "math/bits.deBruijn64tab"], plainKeys := false, apart := false, laid := [("math/bits.deBruijn32tab", laid_math_bits_deBruijn32tab), ("math/bits.deBruijn64tab", laid_math_bits_deBruijn64tab), ("internal/strconv.uint64pow10", laid_internal_strconv_uint64pow10)], narrowed := true }
def VerifyBoundsUptoSaid : Prop := verifyBoundsUptoRow.holds Tryz.pinned (OpenSpec.upto verifyBoundsSpec)

/-- 'ganglionlaw11.VerifyCertains', WHERE WHAT IT READS IS OF BULK AT MOST 1048576: true; the input reads as it did. -/
def verifyCertainsUptoRow : OpenClaim := { program := "ytephkjicokbckaagreatdoor", sum := "aa722ab8ad4e04167d68e713d60ea47a2618a6a11425920a7ffd09c59e4c4cf8", func := "ganglion/ganglionlaw11.VerifyCertains", spec := "verifyCertains", unfollowed := true, recurses := true, named := ["internal/strconv.uint64pow10", "math/bits.deBruijn32tab", "math/bits.deBruijn64tab"], plainKeys := false, apart := false, laid := [("math/bits.deBruijn32tab", laid_math_bits_deBruijn32tab), ("math/bits.deBruijn64tab", laid_math_bits_deBruijn64tab), ("internal/strconv.uint64pow10", laid_internal_strconv_uint64pow10)], narrowed := true }
def VerifyCertainsUptoSaid : Prop := verifyCertainsUptoRow.holds Tryz.pinned (OpenSpec.upto verifyCertainsSpec)

/-- 'ganglionlaw11.VerifyRuns', WHERE WHAT IT READS IS OF BULK AT MOST 1048576: true; the input reads as it did. -/
def verifyRunsUptoRow : OpenClaim := { program := "ytephkjicokbckaagreatdoor", sum := "aa722ab8ad4e04167d68e713d60ea47a2618a6a11425920a7ffd09c59e4c4cf8", func := "ganglion/ganglionlaw11.VerifyRuns", spec := "verifyRuns", unfollowed := true, recurses := true, named := ["internal/strconv.uint64pow10", "math/bits.deBruijn32tab", "math/bits.deBruijn64tab"], plainKeys := false, apart := false, laid := [("math/bits.deBruijn32tab", laid_math_bits_deBruijn32tab), ("math/bits.deBruijn64tab", laid_math_bits_deBruijn64tab), ("internal/strconv.uint64pow10", laid_internal_strconv_uint64pow10)], narrowed := true }
def VerifyRunsUptoSaid : Prop := verifyRunsUptoRow.holds Tryz.pinned (OpenSpec.upto verifyRunsSpec)

/-- 'ganglionlaw11.VerifyFound', WHERE WHAT IT READS IS OF BULK AT MOST 1048576: true; the input reads as it did. -/
def verifyFoundUptoRow : OpenClaim := { program := "ytephkjicokbckaagreatdoor", sum := "aa722ab8ad4e04167d68e713d60ea47a2618a6a11425920a7ffd09c59e4c4cf8", func := "ganglion/ganglionlaw11.VerifyFound", spec := "verifyFound", unfollowed := true, recurses := true, named := ["internal/strconv.uint64pow10", "math/bits.deBruijn32tab", "math/bits.deBruijn64tab"], plainKeys := false, apart := false, laid := [("math/bits.deBruijn32tab", laid_math_bits_deBruijn32tab), ("math/bits.deBruijn64tab", laid_math_bits_deBruijn64tab), ("internal/strconv.uint64pow10", laid_internal_strconv_uint64pow10)], narrowed := true }
def VerifyFoundUptoSaid : Prop := verifyFoundUptoRow.holds Tryz.pinned (OpenSpec.upto verifyFoundSpec)

/-- 'ganglionlaw11.VerifySound', WHERE WHAT IT READS IS OF BULK AT MOST 1048576: true; the input reads as it did. -/
def verifySoundUptoRow : OpenClaim := { program := "ytephkjicokbckaagreatdoor", sum := "aa722ab8ad4e04167d68e713d60ea47a2618a6a11425920a7ffd09c59e4c4cf8", func := "ganglion/ganglionlaw11.VerifySound", spec := "verifySound", unfollowed := true, recurses := true, named := ["internal/strconv.uint64pow10", "math/bits.deBruijn32tab", "math/bits.deBruijn64tab"], plainKeys := false, apart := false, laid := [("math/bits.deBruijn32tab", laid_math_bits_deBruijn32tab), ("math/bits.deBruijn64tab", laid_math_bits_deBruijn64tab), ("internal/strconv.uint64pow10", laid_internal_strconv_uint64pow10)], narrowed := true }
def VerifySoundUptoSaid : Prop := verifySoundUptoRow.holds Tryz.pinned (OpenSpec.upto verifySoundSpec)

/-- 'ganglionlaw11.VerifyExact', WHERE WHAT IT READS IS OF BULK AT MOST 1048576: true; the input reads as it did. -/
def verifyExactUptoRow : OpenClaim := { program := "ytephkjicokbckaagreatdoor", sum := "aa722ab8ad4e04167d68e713d60ea47a2618a6a11425920a7ffd09c59e4c4cf8", func := "ganglion/ganglionlaw11.VerifyExact", spec := "verifyExact", unfollowed := true, recurses := true, named := ["internal/strconv.uint64pow10", "math/bits.deBruijn32tab", "math/bits.deBruijn64tab"], plainKeys := false, apart := false, laid := [("math/bits.deBruijn32tab", laid_math_bits_deBruijn32tab), ("math/bits.deBruijn64tab", laid_math_bits_deBruijn64tab), ("internal/strconv.uint64pow10", laid_internal_strconv_uint64pow10)], narrowed := true }
def VerifyExactUptoSaid : Prop := verifyExactUptoRow.holds Tryz.pinned (OpenSpec.upto verifyExactSpec)

/-- 'ganglionlaw11.VerifyClaims', WHERE WHAT IT READS IS OF BULK AT MOST 1048576: true; the input reads as it did. -/
def verifyClaimsUptoRow : OpenClaim := { program := "ytephkjicokbckaagreatdoor", sum := "aa722ab8ad4e04167d68e713d60ea47a2618a6a11425920a7ffd09c59e4c4cf8", func := "ganglion/ganglionlaw11.VerifyClaims", spec := "verifyClaims", unfollowed := true, recurses := true, named := ["internal/strconv.uint64pow10", "math/bits.deBruijn32tab", "math/bits.deBruijn64tab"], plainKeys := false, apart := false, laid := [("math/bits.deBruijn32tab", laid_math_bits_deBruijn32tab), ("math/bits.deBruijn64tab", laid_math_bits_deBruijn64tab), ("internal/strconv.uint64pow10", laid_internal_strconv_uint64pow10)], narrowed := true }
def VerifyClaimsUptoSaid : Prop := verifyClaimsUptoRow.holds Tryz.pinned (OpenSpec.upto verifyClaimsSpec)

/-- 'ganglionlaw11.VerifyCertain', WHERE WHAT IT READS IS OF BULK AT MOST 1048576: true; the input reads as it did. -/
def verifyCertainUptoRow : OpenClaim := { program := "ytephkjicokbckaagreatdoor", sum := "aa722ab8ad4e04167d68e713d60ea47a2618a6a11425920a7ffd09c59e4c4cf8", func := "ganglion/ganglionlaw11.VerifyCertain", spec := "verifyCertain", unfollowed := true, recurses := true, named := ["internal/strconv.uint64pow10", "math/bits.deBruijn32tab", "math/bits.deBruijn64tab"], plainKeys := false, apart := false, laid := [("math/bits.deBruijn32tab", laid_math_bits_deBruijn32tab), ("math/bits.deBruijn64tab", laid_math_bits_deBruijn64tab), ("internal/strconv.uint64pow10", laid_internal_strconv_uint64pow10)], narrowed := true }
def VerifyCertainUptoSaid : Prop := verifyCertainUptoRow.holds Tryz.pinned (OpenSpec.upto verifyCertainSpec)

/-- 'ganglionlaw11.VerifyRobusts', WHERE WHAT IT READS IS OF BULK AT MOST 1048576: true; the input reads as it did. -/
def verifyRobustsUptoRow : OpenClaim := { program := "ytephkjicokbckaagreatdoor", sum := "aa722ab8ad4e04167d68e713d60ea47a2618a6a11425920a7ffd09c59e4c4cf8", func := "ganglion/ganglionlaw11.VerifyRobusts", spec := "verifyRobusts", unfollowed := true, recurses := true, named := ["internal/strconv.uint64pow10", "math/bits.deBruijn32tab", "math/bits.deBruijn64tab"], plainKeys := false, apart := false, laid := [("math/bits.deBruijn32tab", laid_math_bits_deBruijn32tab), ("math/bits.deBruijn64tab", laid_math_bits_deBruijn64tab), ("internal/strconv.uint64pow10", laid_internal_strconv_uint64pow10)], narrowed := true }
def VerifyRobustsUptoSaid : Prop := verifyRobustsUptoRow.holds Tryz.pinned (OpenSpec.upto verifyRobustsSpec)

/-- 'ganglionlaw11.VerifyKnown', WHERE WHAT IT READS IS OF BULK AT MOST 1048576: true; the input reads as it did. -/
def verifyKnownUptoRow : OpenClaim := { program := "ytephkjicokbckaagreatdoor", sum := "aa722ab8ad4e04167d68e713d60ea47a2618a6a11425920a7ffd09c59e4c4cf8", func := "ganglion/ganglionlaw11.VerifyKnown", spec := "verifyKnown", unfollowed := true, recurses := true, named := ["internal/strconv.uint64pow10", "math/bits.deBruijn32tab", "math/bits.deBruijn64tab"], plainKeys := false, apart := false, laid := [("math/bits.deBruijn32tab", laid_math_bits_deBruijn32tab), ("math/bits.deBruijn64tab", laid_math_bits_deBruijn64tab), ("internal/strconv.uint64pow10", laid_internal_strconv_uint64pow10)], narrowed := true }
def VerifyKnownUptoSaid : Prop := verifyKnownUptoRow.holds Tryz.pinned (OpenSpec.upto verifyKnownSpec)

/-- 'ganglionlaw11.VerifyDisturbed', WHERE WHAT IT READS IS OF BULK AT MOST 1048576: true; the input reads as it did. -/
def verifyDisturbedUptoRow : OpenClaim := { program := "ytephkjicokbckaagreatdoor", sum := "aa722ab8ad4e04167d68e713d60ea47a2618a6a11425920a7ffd09c59e4c4cf8", func := "ganglion/ganglionlaw11.VerifyDisturbed", spec := "verifyDisturbed", unfollowed := true, recurses := true, named := ["internal/strconv.uint64pow10", "math/bits.deBruijn32tab", "math/bits.deBruijn64tab"], plainKeys := false, apart := false, laid := [("math/bits.deBruijn32tab", laid_math_bits_deBruijn32tab), ("math/bits.deBruijn64tab", laid_math_bits_deBruijn64tab), ("internal/strconv.uint64pow10", laid_internal_strconv_uint64pow10)], narrowed := true }
def VerifyDisturbedUptoSaid : Prop := verifyDisturbedUptoRow.holds Tryz.pinned (OpenSpec.upto verifyDisturbedSpec)

end Rows
end Go.Proofs.YtephkjicokbckaaGreatDoor
