/-
  DERIVED. GIVEN WITH THE SEED: THE CARDS: each row of YtfcihloebncmdaaDoorRows.lean that lists a variable, with what it lists TIED to the program's text (the seventh form; the later family's looks); each row that meets fmt, with fmt's text TOLD by the authors' own Lean function (tested against real Go, not proved from fmt's source: count such statements apart). THE CARD IS WHAT COUNTS. Prove the row's statement (the work); the ties are given (YtfcihloebncmdaaDoorTie.lean); close each card by the builder's one call (the guide's Derived/Test/ToyasCard.lean, 'card_holds'). Laid BY PROGRAM, IN A SANDBOX (cutbox-door.mjs). By AI agents, Wed Nov 11 2026. No macro, syntax, notation, axiom, sorry.
-/
import Derived.Test.YtfcihloebncmdaaDoorRows
import GoSem.ClaimSeven
namespace Go.Proofs.YtfcihloebncmdaaDoor
namespace Rows

/-- THE TIED CARD OF 'faaslaw37.InstanceSteps'. -/
def instanceStepsCard : Claim7 := { stood := { row := instanceStepsRow, standIns := [], harness := (true, "9343f9deb2bba086361149352d1ff49e22afc20ef78b9105c476a37f3e43f98a"), looks := false }, kinds := [], alts := [], laidByText := true, laidKinds := [.data], laidTests := true, laidLooks := .later }
def InstanceStepsCardSaid : Prop := Claim7.holds Tryd.pinned (.plain (OpenSpec.ofChange instanceStepsSpec)) instanceStepsCard

/-- THE TIED CARD OF 'faaslaw37.InstanceLegal'. -/
def instanceLegalCard : Claim7 := { stood := { row := instanceLegalRow, standIns := [], harness := (true, "9343f9deb2bba086361149352d1ff49e22afc20ef78b9105c476a37f3e43f98a"), looks := false }, kinds := [], alts := [], laidByText := true, laidKinds := [.data], laidTests := true, laidLooks := .later }
def InstanceLegalCardSaid : Prop := Claim7.holds Tryd.pinned (.plain (OpenSpec.ofChange instanceLegalSpec)) instanceLegalCard

/-- THE TIED CARD OF 'faaslaw37.InstancePlays'. -/
def instancePlaysCard : Claim7 := { stood := { row := instancePlaysRow, standIns := [], harness := (true, "9343f9deb2bba086361149352d1ff49e22afc20ef78b9105c476a37f3e43f98a"), looks := false }, kinds := [], alts := [], laidByText := true, laidKinds := [.data], laidTests := true, laidLooks := .later }
def InstancePlaysCardSaid : Prop := Claim7.holds Tryd.pinned (.plain (OpenSpec.ofChange instancePlaysSpec)) instancePlaysCard

/-- THE TIED CARD OF 'faaslaw37.InstanceCounts'. -/
def instanceCountsCard : Claim7 := { stood := { row := instanceCountsRow, standIns := [], harness := (true, "9343f9deb2bba086361149352d1ff49e22afc20ef78b9105c476a37f3e43f98a"), looks := false }, kinds := [], alts := [], laidByText := true, laidKinds := [.data], laidTests := true, laidLooks := .later }
def InstanceCountsCardSaid : Prop := Claim7.holds Tryd.pinned (.plain (OpenSpec.ofChange instanceCountsSpec)) instanceCountsCard

/-- THE TIED CARD OF 'faaslaw37.InstanceReturns'. -/
def instanceReturnsCard : Claim7 := { stood := { row := instanceReturnsRow, standIns := [], harness := (true, "9343f9deb2bba086361149352d1ff49e22afc20ef78b9105c476a37f3e43f98a"), looks := false }, kinds := [], alts := [], laidByText := true, laidKinds := [.data], laidTests := true, laidLooks := .later }
def InstanceReturnsCardSaid : Prop := Claim7.holds Tryd.pinned (.plain (OpenSpec.ofChange instanceReturnsSpec)) instanceReturnsCard

/-- THE SECOND FORM's CARD OF 'faaslaw37.InstanceSteps'. -/
def instanceStepsUptoCard : Claim7 := { stood := { row := instanceStepsUptoRow, standIns := [], harness := (true, "9343f9deb2bba086361149352d1ff49e22afc20ef78b9105c476a37f3e43f98a"), looks := false }, kinds := [], alts := [], laidByText := true, laidKinds := [.data], laidTests := true, laidLooks := .later }
def InstanceStepsUptoCardSaid : Prop := Claim7.holds Tryd.pinned (.plain (OpenSpec.upto instanceStepsSpec)) instanceStepsUptoCard

/-- THE SECOND FORM's CARD OF 'faaslaw37.InstanceLegal'. -/
def instanceLegalUptoCard : Claim7 := { stood := { row := instanceLegalUptoRow, standIns := [], harness := (true, "9343f9deb2bba086361149352d1ff49e22afc20ef78b9105c476a37f3e43f98a"), looks := false }, kinds := [], alts := [], laidByText := true, laidKinds := [.data], laidTests := true, laidLooks := .later }
def InstanceLegalUptoCardSaid : Prop := Claim7.holds Tryd.pinned (.plain (OpenSpec.upto instanceLegalSpec)) instanceLegalUptoCard

/-- THE SECOND FORM's CARD OF 'faaslaw37.InstancePlays'. -/
def instancePlaysUptoCard : Claim7 := { stood := { row := instancePlaysUptoRow, standIns := [], harness := (true, "9343f9deb2bba086361149352d1ff49e22afc20ef78b9105c476a37f3e43f98a"), looks := false }, kinds := [], alts := [], laidByText := true, laidKinds := [.data], laidTests := true, laidLooks := .later }
def InstancePlaysUptoCardSaid : Prop := Claim7.holds Tryd.pinned (.plain (OpenSpec.upto instancePlaysSpec)) instancePlaysUptoCard

/-- THE SECOND FORM's CARD OF 'faaslaw37.InstanceCounts'. -/
def instanceCountsUptoCard : Claim7 := { stood := { row := instanceCountsUptoRow, standIns := [], harness := (true, "9343f9deb2bba086361149352d1ff49e22afc20ef78b9105c476a37f3e43f98a"), looks := false }, kinds := [], alts := [], laidByText := true, laidKinds := [.data], laidTests := true, laidLooks := .later }
def InstanceCountsUptoCardSaid : Prop := Claim7.holds Tryd.pinned (.plain (OpenSpec.upto instanceCountsSpec)) instanceCountsUptoCard

/-- THE SECOND FORM's CARD OF 'faaslaw37.InstanceReturns'. -/
def instanceReturnsUptoCard : Claim7 := { stood := { row := instanceReturnsUptoRow, standIns := [], harness := (true, "9343f9deb2bba086361149352d1ff49e22afc20ef78b9105c476a37f3e43f98a"), looks := false }, kinds := [], alts := [], laidByText := true, laidKinds := [.data], laidTests := true, laidLooks := .later }
def InstanceReturnsUptoCardSaid : Prop := Claim7.holds Tryd.pinned (.plain (OpenSpec.upto instanceReturnsSpec)) instanceReturnsUptoCard
end Rows
end Go.Proofs.YtfcihloebncmdaaDoor
