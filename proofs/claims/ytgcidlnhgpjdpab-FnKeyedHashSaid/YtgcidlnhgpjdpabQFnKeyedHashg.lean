/- The kinds of the arguments of the law FnKeyedHash: what is read as data at these types is of the kinds that the printed functions take. No conditions. -/
import Derived.Test.YtgcidlnhgpjdpabOpens
import Derived.Test.YtgcidlnhgpjdpabQFnKeyedHashx0
namespace Go.Proofs.Ytgcidlnhgpjdpab.QFnKeyedHash
open Go.RowKit Go.Proofs.YtgcidlnhgpjdpabW.PrintWords Go.Proofs.Ytgcidlnhgpjdpab.Opens
end Go.Proofs.Ytgcidlnhgpjdpab.QFnKeyedHash
