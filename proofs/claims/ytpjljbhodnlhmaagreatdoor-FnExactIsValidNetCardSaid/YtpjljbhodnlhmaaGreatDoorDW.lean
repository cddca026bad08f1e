
/- The world that a door seat's witnesses start in: the heap that the door's own run leaves, with the pinned table laid. -/
import Derived.Test.YtpjljbhodnlhmaaGreatDoorRows
import Derived.Test.YtpjljbhodnlhmaaGreatDoorCards
import Derived.Test.YtpjljbhodnlhmaaGreatDoorTie
import Derived.ProofKit
import Derived.LaidMore
import Derived.OpenShut
import Derived.Stop.Joined
import Derived.SevenTiedAt
namespace Go.Proofs.YtpjljbhodnlhmaaGreatDoor
open Go
def litsOf : DataW Unit → List Value
  | .agg l => l.filterMap fun d => match d with
    | .lit (.int k n) => some (.int k n)
    | _ => none
  | _ => []
noncomputable def pinW (w : World) : World := { w with heap := w.heap.modify 0 (fun o => match o with
  | .cells _ t => .cells (litsOf Go.Pinned.utf8First).toArray t
  | o => o) }
noncomputable def doorW (os : Os) : World := pinW (World.doorLaid Tryz.prog 400 os)
set_option maxRecDepth 1000000 in
theorem doorShaped (os : Os) (args : Array Value) : ((doorW os).forCall (fun _ _ => 0) ⟨#[], args, []⟩).Shaped Tryz.prog := World.shaped_of_RefB (by kernel_rfl) (by kernel_rfl)
set_option maxRecDepth 1000000 in
theorem doorMet (os : Os) (args : Array Value) : laidMetH Tryz.prog Rows.fnExactNewNetRow.laid ((doorW os).forCall (fun _ _ => 0) ⟨#[], args, []⟩).memory :=
  laidMetH_of_parts3 (fuel := 8) (laidMet_of_run' 8 (by kernel_rfl) (by kernel_rfl)) (by kernel_rfl) (by kernel_rfl)
#print axioms doorMet
end Go.Proofs.YtpjljbhodnlhmaaGreatDoor
