/- The kinds of the arguments of the law FnAddresses: what is read as data at these types is of the kinds that the printed functions take. No conditions. -/
import Derived.Test.YtgcidlnhgpjdpaaDoorOpens
import Derived.Test.YtgcidlnhgpjdpaaDoorQFnAddressesx0
namespace Go.Proofs.YtgcidlnhgpjdpaaDoor.QFnAddresses
open Go.RowKit Go.Proofs.YtgcidlnhgpjdpaaDoorW.PrintWords Go.Proofs.YtgcidlnhgpjdpaaDoor.Opens
end Go.Proofs.YtgcidlnhgpjdpaaDoor.QFnAddresses
