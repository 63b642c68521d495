/-
  WALKS: layer 4: stamps.
-/
import Derived.Test.YtllljngpgjkdiaaGreatDoorMCmpI
import Derived.Test.YtllljngpgjkdiaaGreatDoorMResC
import Derived.BigQuiet
import Derived.IntWalk
import Derived.StillTailTactics
namespace Go.Proofs.YtllljngpgjkdiaaGreatDoor
open Go.RowKit

end Go.Proofs.YtllljngpgjkdiaaGreatDoor
