/-
  NARROWER THAN 'FOR EVERY INPUT', by the rows' own cells (each row's printed sentence says how): ClusterSafe: laid · LogAgrees: laid · Refines: laid · Repairs: laid · Serves: laid.
  DERIVED. THE GIVEN ROWS OF THIS SEAT. 5 by the template 'for every input the law returns true; each argument reads behind the call as it read before'; 0 by the template 'total and deterministic' (their statements: YgdaogDoorTotals.lean).
  GIVEN WITH THE SEED: the statements are not yours to turn. If you find one false, say at which input.
  Laid BY PROGRAM, IN A SANDBOX (cutbox-rows.mjs): the forced cells as the released guide's own fill.sh prints them over the translation ec99d7ca6acf78a4… (all of the seat's roots in one cut). By AI agents, Wed Nov 11 2026. No macro, syntax, notation, axiom, sorry.
-/
import Derived.Test.YgdaogDoorChecked
import GoSem.Claim
import GoSem.ClaimJoined
import GoSem.ClaimMapViews
import Derived.JoinedTies
import Derived.KernelRfl
namespace Go.Proofs.YgdaogDoor
/- THE CELL 'sum', in the pinned program and in every row, IS THE sha256 OF THE DUMP (.gsa) THAT YgdaogDoorProg.lean LOADS. Nothing in Lean hashes anything: it is a label: what it is worth is what the hold of that sum in a sandbox is worth. -/
noncomputable def Yaod.pinned : Pinned := { name := "ygdaogdoor", sum := "ec99d7ca6acf78a450d340ffed81f6f879d1535de09a45c38d34dda5ea00dd4e", checked := Yaod.checked }
namespace Rows
def none {H : Type} : Left H := { results := [], args := [] }

/- WHAT THE LISTED PACKAGE-LEVEL VARIABLES READ AS WHEN THE CALL BEGINS. Each datum BY PROGRAM (the guide's laid-datum.mjs) off the statement by which the dump's own 'gosem.cut.vars' lays the variable. In a bare row this is a premise. The card (YgdaogDoorCards.lean) ties it to the program's text. -/
def laid_raftcore_rlog_ErrCompacted {H : Type} : DataW H := .iface "*errors.errorString" (.ptr (.agg [.lit (.string [114, 108, 111, 103, 58, 32, 105, 110, 100, 101, 120, 32, 108, 105, 101, 115, 32, 98, 101, 108, 111, 119, 32, 116, 104, 101, 32, 115, 110, 97, 112, 115, 104, 111, 116])]))
def laid_raftcore_rlog_ErrUnavailable {H : Type} : DataW H := .iface "*errors.errorString" (.ptr (.agg [.lit (.string [114, 108, 111, 103, 58, 32, 105, 110, 100, 101, 120, 32, 108, 105, 101, 115, 32, 98, 101, 121, 111, 110, 100, 32, 116, 104, 101, 32, 108, 97, 115, 116, 32, 114, 101, 99, 111, 114, 100])]))

/-- 'laws.ClusterSafe': WHATEVER THE INPUT: true; the input reads as it did. -/
def clusterSafeSpec : ChangeSpec := { name := "clusterSafe", fn := fun _ => fun
  | [d1, d2, d3] => { results := [.lit (.bool true)], args := [d1, d2, d3] }
  | _ => none }
def clusterSafeRow : OpenClaim := { program := "ygdaogdoor", sum := "ec99d7ca6acf78a450d340ffed81f6f879d1535de09a45c38d34dda5ea00dd4e", func := "raftcore/laws.ClusterSafe", spec := "clusterSafe", unfollowed := true, recurses := true, named := ["raftcore/rlog.ErrCompacted", "raftcore/rlog.ErrUnavailable"], apart := false, laid := [("raftcore/rlog.ErrCompacted", laid_raftcore_rlog_ErrCompacted), ("raftcore/rlog.ErrUnavailable", laid_raftcore_rlog_ErrUnavailable)] }
def ClusterSafeSaid : Prop := clusterSafeRow.holds Yaod.pinned (OpenSpec.ofChange clusterSafeSpec)

/-- ITS FALSE NEIGHBOUR: 'it returns false'. Refute it at one input. -/
def clusterSafeWrong : ChangeSpec := { name := "clusterSafe", fn := fun _ => fun
  | [d1, d2, d3] => { results := [.lit (.bool false)], args := [d1, d2, d3] }
  | _ => none }
def ClusterSafeWrongFalsely : Prop := clusterSafeRow.holds Yaod.pinned (OpenSpec.ofChange clusterSafeWrong)

/-- 'laws.LogAgrees': WHATEVER THE INPUT: true; the input reads as it did. -/
def logAgreesSpec : ChangeSpec := { name := "logAgrees", fn := fun _ => fun
  | [d1, d2, d3] => { results := [.lit (.bool true)], args := [d1, d2, d3] }
  | _ => none }
def logAgreesRow : OpenClaim := { program := "ygdaogdoor", sum := "ec99d7ca6acf78a450d340ffed81f6f879d1535de09a45c38d34dda5ea00dd4e", func := "raftcore/laws.LogAgrees", spec := "logAgrees", unfollowed := true, recurses := true, named := ["raftcore/rlog.ErrCompacted", "raftcore/rlog.ErrUnavailable"], apart := false, laid := [("raftcore/rlog.ErrCompacted", laid_raftcore_rlog_ErrCompacted), ("raftcore/rlog.ErrUnavailable", laid_raftcore_rlog_ErrUnavailable)] }
def LogAgreesSaid : Prop := logAgreesRow.holds Yaod.pinned (OpenSpec.ofChange logAgreesSpec)

/-- ITS FALSE NEIGHBOUR: 'it returns false'. Refute it at one input. -/
def logAgreesWrong : ChangeSpec := { name := "logAgrees", fn := fun _ => fun
  | [d1, d2, d3] => { results := [.lit (.bool false)], args := [d1, d2, d3] }
  | _ => none }
def LogAgreesWrongFalsely : Prop := logAgreesRow.holds Yaod.pinned (OpenSpec.ofChange logAgreesWrong)

/-- 'laws.Refines': WHATEVER THE INPUT: true; the input reads as it did. -/
def refinesSpec : ChangeSpec := { name := "refines", fn := fun _ => fun
  | [d1, d2, d3, d4] => { results := [.lit (.bool true)], args := [d1, d2, d3, d4] }
  | _ => none }
def refinesRow : OpenClaim := { program := "ygdaogdoor", sum := "ec99d7ca6acf78a450d340ffed81f6f879d1535de09a45c38d34dda5ea00dd4e", func := "raftcore/laws.Refines", spec := "refines", inPlace := ["maps.clone"], unfollowed := true, recurses := true, named := ["raftcore/rlog.ErrCompacted", "raftcore/rlog.ErrUnavailable"], apart := false, laid := [("raftcore/rlog.ErrCompacted", laid_raftcore_rlog_ErrCompacted), ("raftcore/rlog.ErrUnavailable", laid_raftcore_rlog_ErrUnavailable)] }
def RefinesSaid : Prop := refinesRow.holds Yaod.pinned (OpenSpec.ofChange refinesSpec)

/-- ITS FALSE NEIGHBOUR: 'it returns false'. Refute it at one input. -/
def refinesWrong : ChangeSpec := { name := "refines", fn := fun _ => fun
  | [d1, d2, d3, d4] => { results := [.lit (.bool false)], args := [d1, d2, d3, d4] }
  | _ => none }
def RefinesWrongFalsely : Prop := refinesRow.holds Yaod.pinned (OpenSpec.ofChange refinesWrong)

/-- 'laws.Repairs': WHATEVER THE INPUT: true; the input reads as it did. -/
def repairsSpec : ChangeSpec := { name := "repairs", fn := fun _ => fun
  | [d1, d2, d3, d4, d5] => { results := [.lit (.bool true)], args := [d1, d2, d3, d4, d5] }
  | _ => none }
def repairsRow : OpenClaim := { program := "ygdaogdoor", sum := "ec99d7ca6acf78a450d340ffed81f6f879d1535de09a45c38d34dda5ea00dd4e", func := "raftcore/laws.Repairs", spec := "repairs", recurses := true, named := ["raftcore/rlog.ErrCompacted", "raftcore/rlog.ErrUnavailable"], apart := false, laid := [("raftcore/rlog.ErrCompacted", laid_raftcore_rlog_ErrCompacted), ("raftcore/rlog.ErrUnavailable", laid_raftcore_rlog_ErrUnavailable)] }
def RepairsSaid : Prop := repairsRow.holds Yaod.pinned (OpenSpec.ofChange repairsSpec)

/-- ITS FALSE NEIGHBOUR: 'it returns false'. Refute it at one input. -/
def repairsWrong : ChangeSpec := { name := "repairs", fn := fun _ => fun
  | [d1, d2, d3, d4, d5] => { results := [.lit (.bool false)], args := [d1, d2, d3, d4, d5] }
  | _ => none }
def RepairsWrongFalsely : Prop := repairsRow.holds Yaod.pinned (OpenSpec.ofChange repairsWrong)

/-- 'laws.Serves': WHATEVER THE INPUT: true; the input reads as it did. -/
def servesSpec : ChangeSpec := { name := "serves", fn := fun _ => fun
  | [d1, d2, d3, d4] => { results := [.lit (.bool true)], args := [d1, d2, d3, d4] }
  | _ => none }
def servesRow : OpenClaim := { program := "ygdaogdoor", sum := "ec99d7ca6acf78a450d340ffed81f6f879d1535de09a45c38d34dda5ea00dd4e", func := "raftcore/laws.Serves", spec := "serves", unfollowed := true, recurses := true, named := ["raftcore/rlog.ErrCompacted", "raftcore/rlog.ErrUnavailable"], apart := false, laid := [("raftcore/rlog.ErrCompacted", laid_raftcore_rlog_ErrCompacted), ("raftcore/rlog.ErrUnavailable", laid_raftcore_rlog_ErrUnavailable)] }
def ServesSaid : Prop := servesRow.holds Yaod.pinned (OpenSpec.ofChange servesSpec)

/-- ITS FALSE NEIGHBOUR: 'it returns false'. Refute it at one input. -/
def servesWrong : ChangeSpec := { name := "serves", fn := fun _ => fun
  | [d1, d2, d3, d4] => { results := [.lit (.bool false)], args := [d1, d2, d3, d4] }
  | _ => none }
def ServesWrongFalsely : Prop := servesRow.holds Yaod.pinned (OpenSpec.ofChange servesWrong)

end Rows
end Go.Proofs.YgdaogDoor
