/-
  DERIVED. GIVEN WITH THE SEED: THE CARDS: each row of YtephkjicokbckaaGreatDoorRows.lean that lists a variable, with what it lists TIED to the program's text (the seventh form; the later family's looks); each row that meets fmt, with fmt's text TOLD by the authors' own Lean function (tested against real Go, not proved from fmt's source: count such statements apart). THE CARD IS WHAT COUNTS. Prove the row's statement (the work); the ties are given (YtephkjicokbckaaGreatDoorTie.lean); close each card by the builder's one call (the guide's Derived/Test/ToyasCard.lean, 'card_holds'). Laid BY PROGRAM, IN A SANDBOX (cutbox-door.mjs). By AI agents, Wed Nov 11 2026. No macro, syntax, notation, axiom, sorry.
-/
import Derived.Test.YtephkjicokbckaaGreatDoorRows
import GoSem.ClaimSeven
namespace Go.Proofs.YtephkjicokbckaaGreatDoor
namespace Rows

/-- THE TIED CARD OF 'ganglionlaw11.VerifyReaches'. -/
def verifyReachesCard : Claim7 := { stood := { row := verifyReachesRow, standIns := [], harness := (true, "6d2481faf58b0c5a21b985c894e2ba2822b3c809b5bdee38745c8b5bd368f416"), looks := false }, kinds := [], alts := [], laidByText := true, laidKinds := [.data, .data, .data], laidTests := true, laidLooks := .later }
def VerifyReachesCardSaid : Prop := Claim7.holds Tryz.pinned (.plain (OpenSpec.ofChange verifyReachesSpec)) verifyReachesCard

/-- THE TIED CARD OF 'ganglionlaw11.VerifyBounds'. -/
def verifyBoundsCard : Claim7 := { stood := { row := verifyBoundsRow, standIns := [], harness := (true, "6d2481faf58b0c5a21b985c894e2ba2822b3c809b5bdee38745c8b5bd368f416"), looks := false }, kinds := [], alts := [], laidByText := true, laidKinds := [.data, .data, .data], laidTests := true, laidLooks := .later }
def VerifyBoundsCardSaid : Prop := Claim7.holds Tryz.pinned (.plain (OpenSpec.ofChange verifyBoundsSpec)) verifyBoundsCard

/-- THE TIED CARD OF 'ganglionlaw11.VerifyCertains'. -/
def verifyCertainsCard : Claim7 := { stood := { row := verifyCertainsRow, standIns := [], harness := (true, "6d2481faf58b0c5a21b985c894e2ba2822b3c809b5bdee38745c8b5bd368f416"), looks := false }, kinds := [], alts := [], laidByText := true, laidKinds := [.data, .data, .data], laidTests := true, laidLooks := .later }
def VerifyCertainsCardSaid : Prop := Claim7.holds Tryz.pinned (.plain (OpenSpec.ofChange verifyCertainsSpec)) verifyCertainsCard

/-- THE TIED CARD OF 'ganglionlaw11.VerifyRuns'. -/
def verifyRunsCard : Claim7 := { stood := { row := verifyRunsRow, standIns := [], harness := (true, "6d2481faf58b0c5a21b985c894e2ba2822b3c809b5bdee38745c8b5bd368f416"), looks := false }, kinds := [], alts := [], laidByText := true, laidKinds := [.data, .data, .data], laidTests := true, laidLooks := .later }
def VerifyRunsCardSaid : Prop := Claim7.holds Tryz.pinned (.plain (OpenSpec.ofChange verifyRunsSpec)) verifyRunsCard

/-- THE TIED CARD OF 'ganglionlaw11.VerifyFound'. -/
def verifyFoundCard : Claim7 := { stood := { row := verifyFoundRow, standIns := [], harness := (true, "6d2481faf58b0c5a21b985c894e2ba2822b3c809b5bdee38745c8b5bd368f416"), looks := false }, kinds := [], alts := [], laidByText := true, laidKinds := [.data, .data, .data], laidTests := true, laidLooks := .later }
def VerifyFoundCardSaid : Prop := Claim7.holds Tryz.pinned (.plain (OpenSpec.ofChange verifyFoundSpec)) verifyFoundCard

/-- THE TIED CARD OF 'ganglionlaw11.VerifySound'. -/
def verifySoundCard : Claim7 := { stood := { row := verifySoundRow, standIns := [], harness := (true, "6d2481faf58b0c5a21b985c894e2ba2822b3c809b5bdee38745c8b5bd368f416"), looks := false }, kinds := [], alts := [], laidByText := true, laidKinds := [.data, .data, .data], laidTests := true, laidLooks := .later }
def VerifySoundCardSaid : Prop := Claim7.holds Tryz.pinned (.plain (OpenSpec.ofChange verifySoundSpec)) verifySoundCard

/-- THE TIED CARD OF 'ganglionlaw11.VerifyExact'. -/
def verifyExactCard : Claim7 := { stood := { row := verifyExactRow, standIns := [], harness := (true, "6d2481faf58b0c5a21b985c894e2ba2822b3c809b5bdee38745c8b5bd368f416"), looks := false }, kinds := [], alts := [], laidByText := true, laidKinds := [.data, .data, .data], laidTests := true, laidLooks := .later }
def VerifyExactCardSaid : Prop := Claim7.holds Tryz.pinned (.plain (OpenSpec.ofChange verifyExactSpec)) verifyExactCard

/-- THE TIED CARD OF 'ganglionlaw11.VerifyClaims'. -/
def verifyClaimsCard : Claim7 := { stood := { row := verifyClaimsRow, standIns := [], harness := (true, "6d2481faf58b0c5a21b985c894e2ba2822b3c809b5bdee38745c8b5bd368f416"), looks := false }, kinds := [], alts := [], laidByText := true, laidKinds := [.data, .data, .data], laidTests := true, laidLooks := .later }
def VerifyClaimsCardSaid : Prop := Claim7.holds Tryz.pinned (.plain (OpenSpec.ofChange verifyClaimsSpec)) verifyClaimsCard

/-- THE TIED CARD OF 'ganglionlaw11.VerifyCertain'. -/
def verifyCertainCard : Claim7 := { stood := { row := verifyCertainRow, standIns := [], harness := (true, "6d2481faf58b0c5a21b985c894e2ba2822b3c809b5bdee38745c8b5bd368f416"), looks := false }, kinds := [], alts := [], laidByText := true, laidKinds := [.data, .data, .data], laidTests := true, laidLooks := .later }
def VerifyCertainCardSaid : Prop := Claim7.holds Tryz.pinned (.plain (OpenSpec.ofChange verifyCertainSpec)) verifyCertainCard

/-- THE TIED CARD OF 'ganglionlaw11.VerifyRobusts'. -/
def verifyRobustsCard : Claim7 := { stood := { row := verifyRobustsRow, standIns := [], harness := (true, "6d2481faf58b0c5a21b985c894e2ba2822b3c809b5bdee38745c8b5bd368f416"), looks := false }, kinds := [], alts := [], laidByText := true, laidKinds := [.data, .data, .data], laidTests := true, laidLooks := .later }
def VerifyRobustsCardSaid : Prop := Claim7.holds Tryz.pinned (.plain (OpenSpec.ofChange verifyRobustsSpec)) verifyRobustsCard

/-- THE TIED CARD OF 'ganglionlaw11.VerifyKnown'. -/
def verifyKnownCard : Claim7 := { stood := { row := verifyKnownRow, standIns := [], harness := (true, "6d2481faf58b0c5a21b985c894e2ba2822b3c809b5bdee38745c8b5bd368f416"), looks := false }, kinds := [], alts := [], laidByText := true, laidKinds := [.data, .data, .data], laidTests := true, laidLooks := .later }
def VerifyKnownCardSaid : Prop := Claim7.holds Tryz.pinned (.plain (OpenSpec.ofChange verifyKnownSpec)) verifyKnownCard

/-- THE TIED CARD OF 'ganglionlaw11.VerifyDisturbed'. -/
def verifyDisturbedCard : Claim7 := { stood := { row := verifyDisturbedRow, standIns := [], harness := (true, "6d2481faf58b0c5a21b985c894e2ba2822b3c809b5bdee38745c8b5bd368f416"), looks := false }, kinds := [], alts := [], laidByText := true, laidKinds := [.data, .data, .data], laidTests := true, laidLooks := .later }
def VerifyDisturbedCardSaid : Prop := Claim7.holds Tryz.pinned (.plain (OpenSpec.ofChange verifyDisturbedSpec)) verifyDisturbedCard

/-- THE SECOND FORM's CARD OF 'ganglionlaw11.VerifyReaches'. -/
def verifyReachesUptoCard : Claim7 := { stood := { row := verifyReachesUptoRow, standIns := [], harness := (true, "6d2481faf58b0c5a21b985c894e2ba2822b3c809b5bdee38745c8b5bd368f416"), looks := false }, kinds := [], alts := [], laidByText := true, laidKinds := [.data, .data, .data], laidTests := true, laidLooks := .later }
def VerifyReachesUptoCardSaid : Prop := Claim7.holds Tryz.pinned (.plain (OpenSpec.upto verifyReachesSpec)) verifyReachesUptoCard

/-- THE SECOND FORM's CARD OF 'ganglionlaw11.VerifyBounds'. -/
def verifyBoundsUptoCard : Claim7 := { stood := { row := verifyBoundsUptoRow, standIns := [], harness := (true, "6d2481faf58b0c5a21b985c894e2ba2822b3c809b5bdee38745c8b5bd368f416"), looks := false }, kinds := [], alts := [], laidByText := true, laidKinds := [.data, .data, .data], laidTests := true, laidLooks := .later }
def VerifyBoundsUptoCardSaid : Prop := Claim7.holds Tryz.pinned (.plain (OpenSpec.upto verifyBoundsSpec)) verifyBoundsUptoCard

/-- THE SECOND FORM's CARD OF 'ganglionlaw11.VerifyCertains'. -/
def verifyCertainsUptoCard : Claim7 := { stood := { row := verifyCertainsUptoRow, standIns := [], harness := (true, "6d2481faf58b0c5a21b985c894e2ba2822b3c809b5bdee38745c8b5bd368f416"), looks := false }, kinds := [], alts := [], laidByText := true, laidKinds := [.data, .data, .data], laidTests := true, laidLooks := .later }
def VerifyCertainsUptoCardSaid : Prop := Claim7.holds Tryz.pinned (.plain (OpenSpec.upto verifyCertainsSpec)) verifyCertainsUptoCard

/-- THE SECOND FORM's CARD OF 'ganglionlaw11.VerifyRuns'. -/
def verifyRunsUptoCard : Claim7 := { stood := { row := verifyRunsUptoRow, standIns := [], harness := (true, "6d2481faf58b0c5a21b985c894e2ba2822b3c809b5bdee38745c8b5bd368f416"), looks := false }, kinds := [], alts := [], laidByText := true, laidKinds := [.data, .data, .data], laidTests := true, laidLooks := .later }
def VerifyRunsUptoCardSaid : Prop := Claim7.holds Tryz.pinned (.plain (OpenSpec.upto verifyRunsSpec)) verifyRunsUptoCard

/-- THE SECOND FORM's CARD OF 'ganglionlaw11.VerifyFound'. -/
def verifyFoundUptoCard : Claim7 := { stood := { row := verifyFoundUptoRow, standIns := [], harness := (true, "6d2481faf58b0c5a21b985c894e2ba2822b3c809b5bdee38745c8b5bd368f416"), looks := false }, kinds := [], alts := [], laidByText := true, laidKinds := [.data, .data, .data], laidTests := true, laidLooks := .later }
def VerifyFoundUptoCardSaid : Prop := Claim7.holds Tryz.pinned (.plain (OpenSpec.upto verifyFoundSpec)) verifyFoundUptoCard

/-- THE SECOND FORM's CARD OF 'ganglionlaw11.VerifySound'. -/
def verifySoundUptoCard : Claim7 := { stood := { row := verifySoundUptoRow, standIns := [], harness := (true, "6d2481faf58b0c5a21b985c894e2ba2822b3c809b5bdee38745c8b5bd368f416"), looks := false }, kinds := [], alts := [], laidByText := true, laidKinds := [.data, .data, .data], laidTests := true, laidLooks := .later }
def VerifySoundUptoCardSaid : Prop := Claim7.holds Tryz.pinned (.plain (OpenSpec.upto verifySoundSpec)) verifySoundUptoCard

/-- THE SECOND FORM's CARD OF 'ganglionlaw11.VerifyExact'. -/
def verifyExactUptoCard : Claim7 := { stood := { row := verifyExactUptoRow, standIns := [], harness := (true, "6d2481faf58b0c5a21b985c894e2ba2822b3c809b5bdee38745c8b5bd368f416"), looks := false }, kinds := [], alts := [], laidByText := true, laidKinds := [.data, .data, .data], laidTests := true, laidLooks := .later }
def VerifyExactUptoCardSaid : Prop := Claim7.holds Tryz.pinned (.plain (OpenSpec.upto verifyExactSpec)) verifyExactUptoCard

/-- THE SECOND FORM's CARD OF 'ganglionlaw11.VerifyClaims'. -/
def verifyClaimsUptoCard : Claim7 := { stood := { row := verifyClaimsUptoRow, standIns := [], harness := (true, "6d2481faf58b0c5a21b985c894e2ba2822b3c809b5bdee38745c8b5bd368f416"), looks := false }, kinds := [], alts := [], laidByText := true, laidKinds := [.data, .data, .data], laidTests := true, laidLooks := .later }
def VerifyClaimsUptoCardSaid : Prop := Claim7.holds Tryz.pinned (.plain (OpenSpec.upto verifyClaimsSpec)) verifyClaimsUptoCard

/-- THE SECOND FORM's CARD OF 'ganglionlaw11.VerifyCertain'. -/
def verifyCertainUptoCard : Claim7 := { stood := { row := verifyCertainUptoRow, standIns := [], harness := (true, "6d2481faf58b0c5a21b985c894e2ba2822b3c809b5bdee38745c8b5bd368f416"), looks := false }, kinds := [], alts := [], laidByText := true, laidKinds := [.data, .data, .data], laidTests := true, laidLooks := .later }
def VerifyCertainUptoCardSaid : Prop := Claim7.holds Tryz.pinned (.plain (OpenSpec.upto verifyCertainSpec)) verifyCertainUptoCard

/-- THE SECOND FORM's CARD OF 'ganglionlaw11.VerifyRobusts'. -/
def verifyRobustsUptoCard : Claim7 := { stood := { row := verifyRobustsUptoRow, standIns := [], harness := (true, "6d2481faf58b0c5a21b985c894e2ba2822b3c809b5bdee38745c8b5bd368f416"), looks := false }, kinds := [], alts := [], laidByText := true, laidKinds := [.data, .data, .data], laidTests := true, laidLooks := .later }
def VerifyRobustsUptoCardSaid : Prop := Claim7.holds Tryz.pinned (.plain (OpenSpec.upto verifyRobustsSpec)) verifyRobustsUptoCard

/-- THE SECOND FORM's CARD OF 'ganglionlaw11.VerifyKnown'. -/
def verifyKnownUptoCard : Claim7 := { stood := { row := verifyKnownUptoRow, standIns := [], harness := (true, "6d2481faf58b0c5a21b985c894e2ba2822b3c809b5bdee38745c8b5bd368f416"), looks := false }, kinds := [], alts := [], laidByText := true, laidKinds := [.data, .data, .data], laidTests := true, laidLooks := .later }
def VerifyKnownUptoCardSaid : Prop := Claim7.holds Tryz.pinned (.plain (OpenSpec.upto verifyKnownSpec)) verifyKnownUptoCard

/-- THE SECOND FORM's CARD OF 'ganglionlaw11.VerifyDisturbed'. -/
def verifyDisturbedUptoCard : Claim7 := { stood := { row := verifyDisturbedUptoRow, standIns := [], harness := (true, "6d2481faf58b0c5a21b985c894e2ba2822b3c809b5bdee38745c8b5bd368f416"), looks := false }, kinds := [], alts := [], laidByText := true, laidKinds := [.data, .data, .data], laidTests := true, laidLooks := .later }
def VerifyDisturbedUptoCardSaid : Prop := Claim7.holds Tryz.pinned (.plain (OpenSpec.upto verifyDisturbedSpec)) verifyDisturbedUptoCard
end Rows
end Go.Proofs.YtephkjicokbckaaGreatDoor
