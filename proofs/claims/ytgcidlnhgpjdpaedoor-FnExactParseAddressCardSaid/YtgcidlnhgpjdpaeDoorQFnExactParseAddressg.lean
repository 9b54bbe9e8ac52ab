/- The kinds of the arguments of the law FnExactParseAddress: what is read as data at these types is of the kinds that the printed functions take. No conditions. -/
import Derived.Test.YtgcidlnhgpjdpaeDoorOpens
import Derived.Test.YtgcidlnhgpjdpaeDoorQFnExactParseAddressx0
namespace Go.Proofs.YtgcidlnhgpjdpaeDoor.QFnExactParseAddress
open Go.RowKit Go.Proofs.YtgcidlnhgpjdpaeDoorW.PrintWords Go.Proofs.YtgcidlnhgpjdpaeDoor.Opens
end Go.Proofs.YtgcidlnhgpjdpaeDoor.QFnExactParseAddress
