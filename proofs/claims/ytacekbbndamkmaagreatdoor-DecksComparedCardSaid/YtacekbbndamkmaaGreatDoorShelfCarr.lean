/- What is proved here: nothing; an empty text that stands in for contracts that this seat does not need. -/
import Derived.Shelf.SlicesQ.IndexFunc
import Derived.Shelf.SlicesQ.Equal
import Derived.Shelf.SlicesE.IndexFunc
import Derived.Test.YtacekbbndamkmaaGreatDoorProg
namespace Go.Proofs.YtacekbbndamkmaaGreatDoor
end Go.Proofs.YtacekbbndamkmaaGreatDoor
