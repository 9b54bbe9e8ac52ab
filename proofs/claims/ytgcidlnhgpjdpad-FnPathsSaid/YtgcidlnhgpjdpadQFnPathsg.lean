/- The kinds of the arguments of the law FnPaths: what is read as data at these types is of the kinds that the printed functions take. No conditions. -/
import Derived.Test.YtgcidlnhgpjdpadOpens
import Derived.Test.YtgcidlnhgpjdpadQFnPathsx0
namespace Go.Proofs.Ytgcidlnhgpjdpad.QFnPaths
open Go.RowKit Go.Proofs.YtgcidlnhgpjdpadW.PrintWords Go.Proofs.Ytgcidlnhgpjdpad.Opens
end Go.Proofs.Ytgcidlnhgpjdpad.QFnPaths
