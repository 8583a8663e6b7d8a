/- What is proved here: nothing at this seat (the place of the shelf's contracts at other seats). No condition. -/
import Derived.Shelf.SlicesQ.IndexFunc
import Derived.Shelf.SlicesQ.Equal
import Derived.Shelf.SlicesE.IndexFunc
import Derived.Test.YtacekbbndamkmaaGreatDoorProg
namespace Go.Proofs.YtacekbbndamkmaaGreatDoor
end Go.Proofs.YtacekbbndamkmaaGreatDoor
