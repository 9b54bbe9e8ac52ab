/- The kinds of the arguments of the law FnExactIsWorth: what is read as data at these types is of the kinds that the printed functions take. No conditions. -/
import Derived.Test.YtgcidlnhgpjdpabOpens
import Derived.Test.YtgcidlnhgpjdpabQFnExactIsWorthx0
namespace Go.Proofs.Ytgcidlnhgpjdpab.QFnExactIsWorth
open Go.RowKit Go.Proofs.YtgcidlnhgpjdpabW.PrintWords Go.Proofs.Ytgcidlnhgpjdpab.Opens
end Go.Proofs.Ytgcidlnhgpjdpab.QFnExactIsWorth
