/-
  DERIVED. GIVEN WITH THE SEED: THE PROGRAM's TIES (one call each: nine closed facts by the kernel) AND EACH ROW's TIE, after the 31st guide's Derived/Test/Toyas{Tie, Card}.lean. No idea stands in it: it is a product of the set-up. Laid BY PROGRAM, IN A SANDBOX (cutbox-door.mjs). By AI agents, Wed Nov 11 2026. No macro, syntax, notation, axiom, sorry.
-/
import Derived.Test.YgdaogDoorRows
import Derived.LaidByTextLater
import Derived.SevenTiedAt
import Derived.LaidSub
import Derived.LaidOnce
namespace Go.Proofs.YgdaogDoor
open Go
set_option maxRecDepth 100000
theorem seatTie1 : Yaod.prog.laidByTextLater [("raftcore/rlog.ErrCompacted", Rows.laid_raftcore_rlog_ErrCompacted), ("raftcore/rlog.ErrUnavailable", Rows.laid_raftcore_rlog_ErrUnavailable)] [.sentinel, .sentinel] true :=
  Program.laidByTextLater_by_one 47 8 2 (by kernel_rfl) (by kernel_rfl) (by kernel_rfl) (by kernel_rfl) (by kernel_rfl) (by kernel_rfl) (fun _ _ => by kernel_rfl)
theorem noOwnUnsafe : Yaod.pinned.checked.prog.headLifts.contains "ownunsafe" = false := by kernel_rfl
theorem tie : Yaod.prog.laidByTextLater [("raftcore/rlog.ErrCompacted", Rows.laid_raftcore_rlog_ErrCompacted), ("raftcore/rlog.ErrUnavailable", Rows.laid_raftcore_rlog_ErrUnavailable)] [.sentinel, .sentinel] true :=
  Program.laidByTextLater.sub seatTie1 ["raftcore/rlog.ErrCompacted", "raftcore/rlog.ErrUnavailable"] (by kernel_rfl) (by kernel_rfl)
theorem clusterSafe_row_tie : Rows.clusterSafeRow.laidByTextAt .later Yaod.pinned [.sentinel, .sentinel] true :=
  OpenClaim.laidByTextAt_later rfl rfl tie noOwnUnsafe
theorem logAgrees_row_tie : Rows.logAgreesRow.laidByTextAt .later Yaod.pinned [.sentinel, .sentinel] true :=
  OpenClaim.laidByTextAt_later rfl rfl tie noOwnUnsafe
theorem refines_row_tie : Rows.refinesRow.laidByTextAt .later Yaod.pinned [.sentinel, .sentinel] true :=
  OpenClaim.laidByTextAt_later rfl rfl tie noOwnUnsafe
theorem repairs_row_tie : Rows.repairsRow.laidByTextAt .later Yaod.pinned [.sentinel, .sentinel] true :=
  OpenClaim.laidByTextAt_later rfl rfl tie noOwnUnsafe
theorem serves_row_tie : Rows.servesRow.laidByTextAt .later Yaod.pinned [.sentinel, .sentinel] true :=
  OpenClaim.laidByTextAt_later rfl rfl tie noOwnUnsafe
end Go.Proofs.YgdaogDoor
