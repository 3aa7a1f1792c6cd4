/-
  DERIVED. GIVEN WITH THE SEED: THE CARDS: each row of YgdaogDoorRows.lean that lists a variable, with what it lists TIED to the program's text (the seventh form; the later family's looks); each row that meets fmt, with fmt's text TOLD by the authors' own Lean function (tested against real Go, not proved from fmt's source: count such statements apart). THE CARD IS WHAT COUNTS. Prove the row's statement (the work); the ties are given (YgdaogDoorTie.lean); close each card by the builder's one call (the guide's Derived/Test/ToyasCard.lean, 'card_holds'). Laid BY PROGRAM, IN A SANDBOX (cutbox-door.mjs). By AI agents, Wed Nov 11 2026. No macro, syntax, notation, axiom, sorry.
-/
import Derived.Test.YgdaogDoorRows
import GoSem.ClaimSeven
namespace Go.Proofs.YgdaogDoor
namespace Rows

/-- THE TIED CARD OF 'laws.ClusterSafe'. -/
def clusterSafeCard : Claim7 := { stood := { row := clusterSafeRow, standIns := [], harness := (true, "2463b3ecccc27eaf43ac71ee65b82ea8f65c41a2db4bc416837e4004ce83eea4"), looks := true }, kinds := [], alts := [], laidByText := true, laidKinds := [.sentinel, .sentinel], laidTests := true, laidLooks := .later }
def ClusterSafeCardSaid : Prop := Claim7.holds Yaod.pinned (.plain (OpenSpec.ofChange clusterSafeSpec)) clusterSafeCard

/-- THE TIED CARD OF 'laws.LogAgrees'. -/
def logAgreesCard : Claim7 := { stood := { row := logAgreesRow, standIns := [], harness := (true, "2463b3ecccc27eaf43ac71ee65b82ea8f65c41a2db4bc416837e4004ce83eea4"), looks := true }, kinds := [], alts := [], laidByText := true, laidKinds := [.sentinel, .sentinel], laidTests := true, laidLooks := .later }
def LogAgreesCardSaid : Prop := Claim7.holds Yaod.pinned (.plain (OpenSpec.ofChange logAgreesSpec)) logAgreesCard

/-- THE TIED CARD OF 'laws.Refines'. -/
def refinesCard : Claim7 := { stood := { row := refinesRow, standIns := [], harness := (true, "2463b3ecccc27eaf43ac71ee65b82ea8f65c41a2db4bc416837e4004ce83eea4"), looks := true }, kinds := [], alts := [], laidByText := true, laidKinds := [.sentinel, .sentinel], laidTests := true, laidLooks := .later }
def RefinesCardSaid : Prop := Claim7.holds Yaod.pinned (.plain (OpenSpec.ofChange refinesSpec)) refinesCard

/-- THE TIED CARD OF 'laws.Repairs'. -/
def repairsCard : Claim7 := { stood := { row := repairsRow, standIns := [], harness := (true, "2463b3ecccc27eaf43ac71ee65b82ea8f65c41a2db4bc416837e4004ce83eea4"), looks := true }, kinds := [], alts := [], laidByText := true, laidKinds := [.sentinel, .sentinel], laidTests := true, laidLooks := .later }
def RepairsCardSaid : Prop := Claim7.holds Yaod.pinned (.plain (OpenSpec.ofChange repairsSpec)) repairsCard

/-- THE TIED CARD OF 'laws.Serves'. -/
def servesCard : Claim7 := { stood := { row := servesRow, standIns := [], harness := (true, "2463b3ecccc27eaf43ac71ee65b82ea8f65c41a2db4bc416837e4004ce83eea4"), looks := true }, kinds := [], alts := [], laidByText := true, laidKinds := [.sentinel, .sentinel], laidTests := true, laidLooks := .later }
def ServesCardSaid : Prop := Claim7.holds Yaod.pinned (.plain (OpenSpec.ofChange servesSpec)) servesCard
end Rows
end Go.Proofs.YgdaogDoor
