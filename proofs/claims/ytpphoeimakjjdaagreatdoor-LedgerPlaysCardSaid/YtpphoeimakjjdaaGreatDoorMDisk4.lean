/-
  WALKS: layer 9: a disk of an image.
-/
import Derived.Test.YtpphoeimakjjdaaGreatDoorMDisk3
import Derived.Deep.RegionLaw
import Derived.Test.YtpphoeimakjjdaaGreatDoorMWpL
import Derived.Great.BuildSlice
namespace Go.Proofs.YtpphoeimakjjdaaGreatDoor
open Go.RowKit

end Go.Proofs.YtpphoeimakjjdaaGreatDoor
