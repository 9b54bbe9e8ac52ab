/- The kinds of the arguments of the law FnResources: what is read as data at these types is of the kinds that the printed functions take. No conditions. -/
import Derived.Test.YtgcidlnhgpjdpadDoorOpens
import Derived.Test.YtgcidlnhgpjdpadDoorQFnResourcesx0
namespace Go.Proofs.YtgcidlnhgpjdpadDoor.QFnResources
open Go.RowKit Go.Proofs.YtgcidlnhgpjdpadDoorW.PrintWords Go.Proofs.YtgcidlnhgpjdpadDoor.Opens
end Go.Proofs.YtgcidlnhgpjdpadDoor.QFnResources
